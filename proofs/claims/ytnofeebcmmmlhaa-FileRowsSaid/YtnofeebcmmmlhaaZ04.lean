/- Lemmas for the statements of this seat: contracts of functions and the plain laws. -/
import Derived.Deep.Slices
import Derived.Ground.Names2Prog
import Derived.Shelf.Slices.Cells
import Derived.Shelf.Slices.Delete
import Derived.Shelf.Slices.Empties
import Derived.Shelf.Slices.Empties2
import Derived.Shelf.Slices.Equal
import Derived.Shelf.Slices.Reverse
import Derived.Shelf.Slices.SearchI
import Derived.Shelf.Small.Wraps
import Derived.Shelf.Spec.SlicesInsert
import Derived.Shelf.Spec.SlicesInsertGrow
import Derived.Test.YtnofeebcmmmlhaaProg
import Derived.Test.YtnofeebcmmmlhaaZ03
set_option linter.unusedVariables false
/- Layer 12 (file): the reader: contracts. -/
namespace Go.Proofs.Ytnofeebcmmmlhaa
open Go.RowKit

/-- A reader in a block: what is left, and whether it fell short. -/
def Rd (r : Nat) (bs : List Int) (sh : Bool) (w : World) : Prop :=
  ∃ A c, Blk w r 70 #[.slice A bs.length c, .bool sh] ∧ Ints .u8 w A bs ∧ bs.length ≤ c ∧ (∀ a, A = some a → a.block < r)

namespace Fp
def short (s : Nat) (bs : List Int) (sh : Bool) : Bool := sh || decide (bs.length < s)
def getV (s : Nat) (bs : List Int) (sh : Bool) : Int := if short s bs sh then 0 else num (bs.take s)
def getL (s : Nat) (bs : List Int) (sh : Bool) : List Int := if short s bs sh then bs else bs.drop s
theorem getV_short {s : Nat} {bs : List Int} {sh : Bool} (h : short s bs sh = true) : getV s bs sh = 0 := by simp [getV, h]
theorem getL_short {s : Nat} {bs : List Int} {sh : Bool} (h : short s bs sh = true) : getL s bs sh = bs := by simp [getL, h]
theorem getV_ok {s : Nat} {bs : List Int} {sh : Bool} (h : short s bs sh = false) : getV s bs sh = num (bs.take s) := by simp [getV, h]
theorem getL_ok {s : Nat} {bs : List Int} {sh : Bool} (h : short s bs sh = false) : getL s bs sh = bs.drop s := by simp [getL, h]
end Fp

def GetPost (r s : Nat) (bs : List Int) (sh : Bool) (w : World) (e : Ending) (w' : World) : Prop :=
  e = .returned (.int .u64 (Fp.getV s bs sh)) ∧ Rd r (Fp.getL s bs sh) (Fp.short s bs sh) w' ∧ w.grownBy w' (some r)

theorem grown_set (w : World) {r i : Nat} (v : Value) : w.grownBy (w.setCell ⟨r, i, none⟩ v) (some r) :=
  ⟨(Below.refl 0 w |>.setCell (p := ⟨r, i, none⟩) (Nat.zero_le _) v).os, (Below.refl 0 w |>.setCell (p := ⟨r, i, none⟩) (Nat.zero_le _) v).tape, (Below.refl 0 w |>.setCell (p := ⟨r, i, none⟩) (Nat.zero_le _) v).output, (Below.refl 0 w |>.setCell (p := ⟨r, i, none⟩) (Nat.zero_le _) v).size, fun k _ hk => Below.heap_setCell w _ _ k fun e => hk (by rw [e])⟩
theorem Ints.set_away {k : IntKind} {w : World} {A : Option Addr} {zs : List Int} {p : Addr} {v : Value} (h : Ints k w A zs) (hne : ∀ a, A = some a → a.block ≠ p.block) : Ints k (w.setCell p v) A zs := fun j hj => by
  obtain ⟨b, off, e, hb, hc⟩ := h j hj
  refine ⟨b, off, e, by simpa using hb, ?_⟩
  rw [← hc]
  exact World.cell?_setCell_far w p ⟨b, off + j, none⟩ v (fun h => hne _ e h.symm)
theorem Rd.fail {r c : Nat} {A : Option Addr} {bs : List Int} {sh : Bool} {w : World} (hb : Blk w r 70 #[.slice A bs.length c, .bool sh]) (hI : Ints .u8 w A bs) (hcap : bs.length ≤ c) (hne : ∀ a, A = some a → a.block < r) :
    Rd r bs true (w.setCell ⟨r, 1, none⟩ (.bool true)) :=
  ⟨A, c, hb.set_ 1 _, hI.set_away (fun a e => Nat.ne_of_lt (hne a e)), hcap, hne⟩

theorem Rd.step {r c b off k : Nat} {bs : List Int} {w : World} (hb : Blk w r 70 #[.slice (some ⟨b, off, none⟩) bs.length c, .bool false]) (hI : Ints .u8 w (some ⟨b, off, none⟩) bs) (hcap : bs.length ≤ c) (hne : ∀ a, some (⟨b, off, none⟩ : Addr) = some a → a.block < r) (hk : k ≤ bs.length) :
    Rd r (bs.drop k) false (w.setCell ⟨r, 0, none⟩ (.slice (some ⟨b, off + k, none⟩) (bs.length - k) (c - k))) := by
  have hbr : b < r := hne _ rfl
  refine ⟨some ⟨b, off + k, none⟩, c - k, ?_, ?_, ?_, ?_⟩
  · rw [List.length_drop]; exact hb.set_ 0 _
  · refine Ints.set_away (Ints.of_row fun j hj => ?_) (by intro a e; injection e with e; subst e; exact Nat.ne_of_lt hbr)
    rw [List.length_drop] at hj
    obtain ⟨b1, off1, e, _, hc⟩ := hI (k + j) (by omega)
    injection e with e
    injection e with e1 e2
    subst e1 e2
    rw [Nat.add_assoc, hc]
    simp [List.getD]
  · rw [List.length_drop]; omega
  · intro a e; injection e with e; subst e; exact hbr

theorem Ints.grown {k : IntKind} {w w' : World} {A : Option Addr} {zs : List Int} {r : Nat} (h : Ints k w A zs) (hg : w.grownBy w' (some r)) (hne : ∀ a, A = some a → a.block ≠ r) : Ints k w' A zs := fun j hj => by
  obtain ⟨b, off, e, hb, hc⟩ := h j hj
  exact ⟨b, off, e, Nat.lt_of_lt_of_le hb hg.size, hg.cell hc (by intro h; injection h with h; exact hne _ e h)⟩
theorem Ints.dropped {k : IntKind} {w : World} {b off : Nat} {zs : List Int} (h : Ints k w (some ⟨b, off, none⟩) zs) (n : Nat) : Ints k w (some ⟨b, off + n, none⟩) (zs.drop n) := Ints.of_row fun j hj => by
  rw [List.length_drop] at hj
  obtain ⟨b1, off1, e, _, hc⟩ := h (n + j) (by omega)
  injection e with e
  injection e with e1 e2
  subst e1 e2
  rw [Nat.add_assoc, hc]
  simp [List.getD]
theorem Ints.taken {k : IntKind} {w : World} {b off : Nat} {zs : List Int} (h : Ints k w (some ⟨b, off, none⟩) zs) (n : Nat) : Ints k w (some ⟨b, off, none⟩) (zs.take n) := Ints.of_row fun j hj => by
  rw [List.length_take] at hj
  obtain ⟨b1, off1, e, _, hc⟩ := h j (by omega)
  injection e with e
  injection e with e1 e2
  subst e1 e2
  rw [hc]
  simp [List.getD, show j < n by omega]
theorem Rd.drewN {r : Nat} {bs : List Int} {sh : Bool} {w : World} (h : Rd r bs sh w) (n : Nat) : Rd r bs sh (w.drewN n) := h
theorem Rd.drew {r : Nat} {bs : List Int} {sh : Bool} {w : World} (h : Rd r bs sh w) : Rd r bs sh w.drew := h
theorem Rd.lt {r : Nat} {bs : List Int} {sh : Bool} {w : World} (h : Rd r bs sh w) : r < w.heap.size := by
  obtain ⟨A, c, hb, _⟩ := h; exact hb.lt

theorem own_bytes {w : World} {B : Nat} {e : TypeId} {v : Value} {n : Nat} {zs : List Int} (h : w.ownsRow B e 1 v n (bytesV zs)) :
    ∃ A c, v = .slice A zs.length c ∧ Ints .u8 w A zs ∧ zs.length ≤ c ∧ (∀ a, A = some a → B ≤ a.block ∧ a.block < w.heap.size) := by
  obtain ⟨A, c, rfl, hn, hI⟩ := Ints.of_own h
  refine ⟨A, c, rfl, hI, ?_, ?_⟩
  · rcases h.2 with ⟨e, h0⟩ | ⟨g, cap, cur, e, _, _, hc, _⟩
    · injection e with _ _ e; omega
    · injection e with _ _ e; omega
  · intro a ha
    subst ha
    exact h.lt _ rfl

set_option maxHeartbeats 2000000 in
set_option maxRecDepth 100000 in
theorem reader_get (r : Nat) (bs : List Int) (sh : Bool) (s : Nat) (w : World) (h : Rd r bs sh w) (hs1 : 1 ≤ s) (hs8 : s ≤ 8) (hlen : bs.length ≤ 1000000000) (hby : ∀ x ∈ bs, 0 ≤ x ∧ x ≤ 255) :
    Calls Try.prog 20 #[.pointer (some ⟨r, 0, none⟩), .int .i64 s] w (GetPost r s bs sh w) := by
  obtain ⟨A, c, hb, hI, hcap, hne⟩ := h
  have HI := Lib.hid hI
  have HY := Lib.hid hby
  have HN := Lib.hid hne
  clear hI hby hne
  have c0 := hb.cell 0
  have c1 := hb.cell 1
  have f0 := hb.frozen 0
  have f1 := hb.frozen 1
  simp at c0 c1
  have hblk := Lib.hid hb
  clear hb
  cases sh with
  | true =>
    have HS := Lib.hid (show Fp.short s bs true = true from rfl)
    go_enter Try.func20, Try.ntmps20
    go_wp2_with fail
    go_ret
    exact ⟨by rw [Fp.getV_short HS.out]; rfl, by rw [Fp.getL_short HS.out, HS.out]; exact Rd.fail hblk.out HI.out hcap HN.out, grown_set w _⟩
  | false =>
    by_cases hlt : bs.length < s
    · have HS := Lib.hid (show Fp.short s bs false = true by simp [Fp.short, hlt])
      go_enter Try.func20, Try.ntmps20
      go_wp2_with fail
      go_ret
      exact ⟨by rw [Fp.getV_short HS.out]; rfl, by rw [Fp.getL_short HS.out, HS.out]; exact Rd.fail hblk.out HI.out hcap HN.out, grown_set w _⟩
    · have HS := Lib.hid (show Fp.short s bs false = false by simp [Fp.short]; omega)
      have HV := Lib.hid (Fp.getV_ok HS.out)
      have HL := Lib.hid (Fp.getL_ok HS.out)
      have hsc : (s : Int) ≤ c := by omega
      obtain ⟨b, off, rfl, hbl, _⟩ := HI.out 0 (by omega)
      go_enter Try.func20, Try.ntmps20
      go_wp2_with fail
      go_loopw [5, 39] (fun n i wr => wr = w ∧ ∃ k : Nat, k ≤ s ∧ i = .int .i64 k ∧ n = .int .u64 (Fp.num (bs.take k))) (fun _ i _ => s - (intOf i).toNat)
      case atStart => exact ⟨rfl, 0, Nat.zero_le _, rfl, rfl⟩
      case round =>
        obtain ⟨rfl, k, hk, rfl, rfl⟩ := hrel
        by_cases hks : k < s
        · have hkl : k < bs.length := by omega
          obtain ⟨b1, off1, hA1, _, hc⟩ := HI.out k hkl
          injection hA1 with hA1
          injection hA1 with hA2 hA3
          subst hA2 hA3
          have HT := Lib.hid (Fp.num_step bs k hkl)
          have ⟨hx0, hx1⟩ := HY.out bs[k] (List.getElem_mem hkl)
          have ⟨hn0, hn1⟩ := Fp.num_lt7 (bs.take k) (fun x hx => HY.out x (List.mem_of_mem_take hx)) (by rw [List.length_take]; omega)
          generalize Fp.num (bs.take k) = n at *
          have v1 : IntKind.u64.wrap (n * 256) = n * 256 := IntWalk.u64_in _ (by omega)
          have v2 : IntKind.u64.wrap bs[k] = bs[k] := IntWalk.u64_in _ (by omega)
          have v3 := or_u64_int n bs[k] hn0 hn1 hx0 hx1
          go_wp2_with fail
          go_roundw
          case rel => exact ⟨trivial, k + 1, by omega, by go_num, by rw [HT.out]⟩
          case measure => simp [intOf]; omega
        · obtain rfl : k = s := by omega
          by_cases hck : c = k
          · have hd := Lib.hid (show bs.drop k = [] from List.drop_eq_nil_of_le (by omega))
            have hlk : bs.length - k = 0 := by omega
            go_wp2_with fail
            go_ret
            refine ⟨by rw [HV.out]; rfl, ?_, grown_set wr _⟩
            rw [HL.out, HS.out, hd.out]
            exact ⟨_, 0, hblk.out.set_ 0 _, Ints.nil, Nat.le_refl _, HN.out⟩
          · go_wp2_with fail
            go_ret
            refine ⟨by rw [HV.out]; rfl, ?_, grown_set wr _⟩
            rw [HL.out, HS.out]
            exact Rd.step hblk.out HI.out hcap HN.out (by omega)

def Fp.endE (bs : List Int) (sh : Bool) : Int := if sh then 16 else if bs.length = 0 then 0 else 10
set_option maxHeartbeats 1000000 in
theorem reader_end (r : Nat) (bs : List Int) (sh : Bool) (w : World) (h : Rd r bs sh w) (hlen : bs.length ≤ 1000000000) :
    Calls Try.prog 24 #[.pointer (some ⟨r, 0, none⟩)] w fun e w' => e = .returned (.int .i64 (Fp.endE bs sh)) ∧ w = w' := by
  obtain ⟨A, c, hb, _, _, _⟩ := h
  have c0 := hb.cell 0
  have c1 := hb.cell 1
  simp at c0 c1
  clear hb
  cases sh with
  | true =>
    go_enter Try.func24, Try.ntmps24
    go_wp2_with fail
    go_ret
    exact ⟨rfl, rfl⟩
  | false =>
    by_cases hlt : bs.length = 0
    · have HS := Lib.hid (show Fp.endE bs false = 0 by simp [Fp.endE, hlt])
      go_enter Try.func24, Try.ntmps24
      go_wp2_with fail
      go_ret
      exact ⟨by rw [HS.out]; rfl, rfl⟩
    · have HS := Lib.hid (show Fp.endE bs false = 10 by simp [Fp.endE]; intro e; simp [e] at hlt)
      have hpos : 0 < bs.length := by omega
      go_enter Try.func24, Try.ntmps24
      go_wp2_with fail
      go_ret
      exact ⟨by rw [HS.out]; rfl, rfl⟩

namespace Fp
def body (bs : List Int) : List Int := bs.take (bs.length - 4)
def mark (bs : List Int) : List Int := bs.drop (bs.length - 4)
def openE (bs : List Int) : Int := if bs.length < 8 then 16 else if num (mark bs) = sum (body bs) then 0 else 30
end Fp
def OpenPost (bs : List Int) (w : World) (e : Ending) (w' : World) : Prop :=
  (Fp.openE bs ≠ 0 ∧ e = .returned (.tuple #[.pointer none, .int .i64 (Fp.openE bs)]) ∨ Fp.openE bs = 0 ∧ ∃ r, e = .returned (.tuple #[.pointer (some ⟨r, 0, none⟩), .int .i64 0]) ∧ w.heap.size ≤ r ∧ Rd r (Fp.body bs) false w') ∧ Below w.heap.size w w'

set_option maxHeartbeats 2000000 in
theorem new_reader (A : Option Addr) (c : Nat) (bs : List Int) (w : World) (hI : Ints .u8 w A bs) (hcap : bs.length ≤ c) (hlen : bs.length ≤ 1000000000) (hby : ∀ x ∈ bs, 0 ≤ x ∧ x ≤ 255) :
    Calls Try.prog 19 #[.slice A bs.length c] w (OpenPost bs w) := by
  have HI := Lib.hid hI
  have HY := Lib.hid hby
  clear hI hby
  by_cases h8 : bs.length < 8
  · have HE := Lib.hid (show Fp.openE bs = 16 by simp [Fp.openE, h8])
    go_enter Try.func19, Try.ntmps19
    go_wp2_with fail
    go_ret2
    exact ⟨.inl ⟨by rw [HE.out]; decide, by rw [HE.out]; rfl⟩, Below.refl _ _⟩
  · obtain ⟨b, off, rfl, hbl, _⟩ := HI.out 0 (by omega)
    obtain ⟨n, hn⟩ : ∃ n, bs.length = n + 4 := ⟨bs.length - 4, by omega⟩
    have hck : c ≠ n := by omega
    have v1 : (n + 4 : Int) - 4 = n := by omega
    have HIs := HI.out.dropped n
    have hl4 : (bs.drop n).length = 4 := by rw [List.length_drop]; omega
    have hln : (bs.take n).length = n := by rw [List.length_take]; omega
    have hbne : b ≠ w.heap.size := by omega
    have hR : Rd w.heap.size (bs.drop n) false (w.alloc (.cells #[.slice (some ⟨b, off + n, none⟩) 4 (c - n), .bool false] 70)) := ⟨some ⟨b, off + n, none⟩, c - n, by rw [hl4]; exact Blk.new w _ _, HIs.alloc _, by omega, by intro a e; injection e with e; subst e; exact hbl⟩
    have hIb : Ints .u8 (w.alloc (.cells #[.slice (some ⟨b, off + n, none⟩) 4 (c - n), .bool false] 70)) (some ⟨b, off, none⟩) (bs.take n) := (HI.out.taken n).alloc _
    have hsum : ∀ W, Ints .u8 W (some ⟨b, off, none⟩) (bs.take n) → Calls Try.prog 25 #[.slice (some ⟨b, off, none⟩) n c] W fun e w' => e = .returned (.int .u32 (Fp.sum (bs.take n))) ∧ W = w' := fun W hI => by
      have := file_sum (some ⟨b, off, none⟩) c (bs.take n) W hI (by omega) (fun x hx => HY.out x (List.mem_of_mem_take hx))
      rwa [hln] at this
    have hget : ∀ W, Rd w.heap.size (bs.drop n) false W → Calls Try.prog 20 #[.pointer (some ⟨w.heap.size, 0, none⟩), .int .i64 4] W (GetPost w.heap.size 4 (bs.drop n) false W) := fun W hR =>
      reader_get w.heap.size (bs.drop n) false 4 W hR (by omega) (by omega) (by omega) (fun x hx => HY.out x (List.mem_of_mem_drop hx))
    have HV := Lib.hid (show Fp.getV 4 (bs.drop n) false = Fp.num (bs.drop n) by rw [Fp.getV_ok (by simp [Fp.short, hl4]), List.take_of_length_le (by omega)])
    have hbn := Lib.hid (show ∀ a, some (⟨b, off, none⟩ : Addr) = some a → a.block ≠ w.heap.size by intro a e; injection e with e; subst e; exact hbne)
    have hnc : (n : Int) ≤ c := by omega
    have hu := Lib.hid (show IntKind.u64.wrap (Fp.sum (bs.take n)) = Fp.sum (bs.take n) from IntWalk.u64_in _ (by have := Fp.sum_range (bs.take n); omega))
    have hclone : ∀ W, Ints .u8 W (some ⟨b, off, none⟩) (bs.take n) → Calls Try.prog 30 #[.slice (some ⟨b, off, none⟩) n c] W (ClonePost W.heap.size (bs.take n) W) := fun W hI => by
      have := bytes_clone (some ⟨b, off, none⟩) c (bs.take n) W hI (by omega)
      rwa [hln] at this
    clear HIs
    go_enter Try.func19, Try.ntmps19
    rw [hn]
    go_wp2_with fail
    go_region_with (first
      | (go_at_call 20; refine (hget _ hR.drew).mono ?_; rintro e w1 ⟨rfl, hR1, hg1⟩; have hI1 := hIb.drew.grown hg1 hbn.out)
      | (go_at_call 25; refine (hsum _ hI1).mono ?_; rintro e w2 ⟨rfl, rfl⟩))
    rw [HV.out, hu.out]
    have hsz1 : w.heap.size + 1 ≤ w1.heap.size := by simpa using hg1.size
    have hb1 : Below w.heap.size w w1 := (((Below.refl _ w).alloc (Nat.le_refl _) _).drew).grown hg1 (by simp) (by intro k hk; injection hk with hk; omega)
    by_cases heq : Fp.num (bs.drop n) = Fp.sum (bs.take n)
    · have HE := Lib.hid (show Fp.openE bs = 0 by simp [Fp.openE, Fp.mark, Fp.body, hn, heq]; omega)
      have HBd := Lib.hid (show Fp.body bs = bs.take n by simp [Fp.body, hn])
      have hne : (Fp.num (bs.drop n) != Fp.sum (bs.take n)) = false := by simp [heq]
      clear heq hR hIb hsum hget HV hg1 hR1
      go_wp2_with fail
      refine (hclone _ hI1).mono ?_
      rintro e w3 ⟨v, rfl, hown, hb3⟩
      obtain ⟨A3, c3, rfl, hI3, hcc, hA3⟩ := own_bytes hown
      rw [hln]
      have hR3 : Rd w3.heap.size (bs.take n) false (w3.alloc (.cells #[.slice A3 n c3, .bool false] 70)) := ⟨A3, c3, by rw [hln]; exact Blk.new w3 _ _, hI3.alloc _, hcc, fun a e => (hA3 a e).2⟩
      have hb4 := hb1.trans (hb3.mono (by omega))
      have hsz4 := hb4.size
      have hb5 := hb4.alloc hsz4 (.cells #[.slice A3 n c3, .bool false] 70)
      clear hown hI3 hcc hb3 hb1 hI1
      go_wp2_with fail
      go_ret2
      exact ⟨.inr ⟨HE.out, w3.heap.size, rfl, hsz4, by rw [HBd.out]; exact hR3⟩, hb5⟩
    · have HE := Lib.hid (show Fp.openE bs = 30 by simp [Fp.openE, Fp.mark, Fp.body, hn, heq]; omega)
      have hne : (Fp.num (bs.drop n) != Fp.sum (bs.take n)) = true := by simp [heq]
      clear heq hR hIb hsum hget HV hg1 hR1
      go_wp2_with fail
      go_ret2
      exact ⟨.inl ⟨by rw [HE.out]; decide, by rw [HE.out]; rfl⟩, hb1⟩

/-- A reader: what is left (bytes), or short. -/
def RdO (r : Nat) : Option (List Int) → World → Prop
  | some bs, w => Rd r bs false w ∧ (∀ x ∈ bs, 0 ≤ x ∧ x ≤ 255) ∧ bs.length ≤ 1000000000
  | none, w => ∃ bs, Rd r bs true w ∧ (∀ x ∈ bs, 0 ≤ x ∧ x ≤ 255) ∧ bs.length ≤ 1000000000
def GetO (r s : Nat) (st : Option (List Int)) (w : World) (e : Ending) (w' : World) : Prop :=
  e = .returned (.int .u64 (Fp.get s st).1) ∧ RdO r (Fp.get s st).2 w' ∧ w.grownBy w' (some r)
theorem Rd.grownOther {r : Nat} {bs : List Int} {sh : Bool} {w w' : World} {row : Option Nat} (h : Rd r bs sh w) (hg : w.grownBy w' row) (hr : ∀ k, row = some k → r < k) : Rd r bs sh w' := by
  obtain ⟨A, c, hb, hI, hc, hne⟩ := h
  refine ⟨A, c, hb.grown hg (fun e => by have := hr r e.symm; omega), fun j hj => ?_, hc, hne⟩
  obtain ⟨b, off, e, hl, hcell⟩ := hI j hj
  exact ⟨b, off, e, Nat.lt_of_lt_of_le hl hg.size, hg.cell hcell (fun h => by have h1 := hr b h.symm; have h2 : b < r := hne _ e; omega)⟩
theorem RdO.lt {r : Nat} {st : Option (List Int)} {w : World} (h : RdO r st w) : r < w.heap.size := by
  cases st with
  | none => obtain ⟨_, h, _⟩ := h; exact h.lt
  | some bs => exact h.1.lt
theorem RdO.ok {r : Nat} {st : Option (List Int)} {w : World} (h : RdO r st w) : Fp.okB st := by
  cases st with
  | none => trivial
  | some bs => exact h.2.1
theorem RdO.grown {r : Nat} {st : Option (List Int)} {w w' : World} {row : Option Nat} (h : RdO r st w) (hg : w.grownBy w' row) (hr : ∀ k, row = some k → r < k) : RdO r st w' := by
  cases st with
  | none => obtain ⟨bs, h, h2⟩ := h; exact ⟨bs, h.grownOther hg hr, h2⟩
  | some bs => exact ⟨h.1.grownOther hg hr, h.2⟩
theorem RdO.alloc {r : Nat} {st : Option (List Int)} {w : World} (h : RdO r st w) (o : Obj) : RdO r st (w.alloc o) := h.grown (World.grownBy_alloc w o none) (by simp)
theorem RdO.drew {r : Nat} {st : Option (List Int)} {w : World} (h : RdO r st w) : RdO r st w.drew := by
  cases st <;> exact h
theorem RdO.drewN {r : Nat} {st : Option (List Int)} {w : World} (h : RdO r st w) (n : Nat) : RdO r st (w.drewN n) := by
  cases st <;> exact h
theorem RdO.cell1 {r : Nat} {st : Option (List Int)} {w : World} (h : RdO r st w) : w.cell? ⟨r, 1, none⟩ = some (.bool st.isNone) := by
  cases st with
  | none => obtain ⟨_, ⟨A, c, hb, _⟩, _⟩ := h; rw [hb.cell 1]; rfl
  | some bs => obtain ⟨⟨A, c, hb, _⟩, _⟩ := h; rw [hb.cell 1]; rfl

theorem reader_getO (r s : Nat) (st : Option (List Int)) (w : World) (h : RdO r st w) (hs1 : 1 ≤ s) (hs8 : s ≤ 8) :
    Calls Try.prog 20 #[.pointer (some ⟨r, 0, none⟩), .int .i64 s] w (GetO r s st w) := by
  cases st with
  | none =>
    obtain ⟨bs, hR, hby, hl⟩ := h
    refine (reader_get r bs true s w hR hs1 hs8 hl hby).mono ?_
    rintro e w' ⟨rfl, hR', hg⟩
    have hs : Fp.short s bs true = true := rfl
    rw [Fp.getL_short hs, hs] at hR'
    exact ⟨by rw [Fp.getV_short hs]; rfl, ⟨bs, hR', hby, hl⟩, hg⟩
  | some bs =>
    obtain ⟨hR, hby, hl⟩ := h
    refine (reader_get r bs false s w hR hs1 hs8 hl hby).mono ?_
    rintro e w' ⟨rfl, hR', hg⟩
    by_cases hlt : bs.length < s
    · have hs : Fp.short s bs false = true := by simp [Fp.short, hlt]
      rw [Fp.getL_short hs, hs] at hR'
      refine ⟨by rw [Fp.getV_short hs, Fp.get_short hlt], ?_, hg⟩
      rw [Fp.get_short hlt]
      exact ⟨bs, hR', hby, hl⟩
    · have hs : Fp.short s bs false = false := by simp [Fp.short]; omega
      rw [Fp.getL_ok hs, hs] at hR'
      refine ⟨by rw [Fp.getV_ok hs, Fp.get_ok hlt], ?_, hg⟩
      rw [Fp.get_ok hlt]
      exact ⟨hR', fun x hx => hby x (List.mem_of_mem_drop hx), by rw [List.length_drop]; omega⟩

def Fp.endO : Option (List Int) → Int
  | none => 16
  | some bs => if bs.length = 0 then 0 else 10
theorem reader_endO (r : Nat) (st : Option (List Int)) (w : World) (h : RdO r st w) :
    Calls Try.prog 24 #[.pointer (some ⟨r, 0, none⟩)] w fun e w' => e = .returned (.int .i64 (Fp.endO st)) ∧ w = w' := by
  cases st with
  | none => obtain ⟨bs, hR, _, hl⟩ := h; exact reader_end r bs true w hR hl
  | some bs => obtain ⟨hR, _, hl⟩ := h; exact reader_end r bs false w hR hl

def ShapeO (r : Nat) (st : Option (List Int)) (w : World) (e : Ending) (w' : World) : Prop :=
  ∃ v, e = .returned v ∧ w'.ownsRow w.heap.size 3 1 v (Fp.shapeR st).1.length ((Fp.shapeR st).1.map (Value.int .i64)) ∧ RdO r (Fp.shapeR st).2 w' ∧ w.grownBy w' (some r)
set_option maxHeartbeats 2000000 in
theorem reader_shape (r : Nat) (st : Option (List Int)) (w : World) (h : RdO r st w) :
    Calls Try.prog 23 #[.pointer (some ⟨r, 0, none⟩)] w (ShapeO r st w) := by
  obtain ⟨i0, hi, hz0, hz1, hz2⟩ := info_parts int_info
  have hrlt := h.lt
  go_enter Try.func23, Try.ntmps23
  go_wp2_with fail
  refine (reader_getO r 1 st _ h (by omega) (by omega)).mono ?_
  rintro e w1 ⟨rfl, hR1, hg1⟩
  have ⟨hc0, hc1, hc2⟩ := Fp.get_one h.ok
  have HF := Lib.hid (Fp.shapeR_F st)
  have HC := Lib.hid hc2
  have HR := Lib.hid hR1
  have HS := Lib.hid (rfl : (Fp.get 1 st).2 = (Fp.get 1 st).2)
  clear hc2 h hR1
  generalize (Fp.get 1 st).2 = st1 at HF HC HR HS
  generalize (Fp.get 1 st).1 = n at HF HC hc0 hc1
  obtain ⟨c, rfl⟩ := Int.eq_ofNat_of_zero_le hc0
  rw [Int.toNat_natCast] at HF
  have HC2 := Lib.hid (show st1 = none → c = 0 by intro h; have := HC.out h; omega)
  clear HC HS
  go_wp2_with fail
  go_loopw [3, 4] (fun v i wr => ∃ (k : Nat) (acc : List Int) (s2 : Option (List Int)), k ≤ 255 ∧ acc.length + k ≤ 255 ∧ i = .int .u64 k ∧ wr.ownsRow w.heap.size 3 1 v acc.length (acc.map (Value.int .i64)) ∧ RdO r s2 wr ∧ w.grownBy wr (some r) ∧ Fp.shapeR st = Fp.shapeF k acc s2 ∧ (s2 = none → k = 0 ∧ acc = [])) (fun _ i _ => (intOf i).toNat)
  case atStart => exact ⟨c, [], st1, by omega, by simp; omega, rfl, World.ownsRow_nil _ _ _ _, HR.out, hg1, HF.out, fun h => ⟨HC2.out h, rfl⟩⟩
  case round =>
    clear hg1 HR HC2 HF
    obtain ⟨k, acc, s2, hk, hka, rfl, hown, hR, hg, hF, hN⟩ := hrel
    have hsz := hg.size
    have HF := Lib.hid hF
    have HN := Lib.hid hN
    have HR := Lib.hid hR
    have hcell := hR.cell1
    clear hF hN hR
    cases k with
    | zero =>
      obtain ⟨A, cc, rfl, _, _⟩ := Ints.of_own hown
      go_wp2_with fail
      go_ret
      refine ⟨_, rfl, ?_, ?_, hg⟩
      all_goals
        rw [HF.out]
        cases s2 with
        | none => obtain ⟨_, rfl⟩ := HN.out rfl; first | exact hown | exact HR.out
        | some bs => rw [Fp.shapeF_zero]; first | exact hown | exact HR.out
    | succ k =>
      cases s2 with
      | none => have := HN.out rfl; omega
      | some bs =>
        have v1 : ((k + 1 : Nat) : Int) - 1 = k := by omega
        go_wp2_with fail
        refine (reader_getO r 2 (some bs) _ HR.out (by omega) (by omega)).mono ?_
        rintro e w2 ⟨rfl, hR2, hg2⟩
        have hg3 := hg.trans hg2
        by_cases hlt : bs.length < 2
        · have HG := Lib.hid (Fp.get_short hlt)
          rw [HG.out] at hR2 ⊢
          have hc1 := hR2.cell1
          have HR2 := Lib.hid hR2
          clear hR2 hg hg2
          go_wp2_with fail
          go_ret
          exact ⟨_, rfl, by rw [HF.out, Fp.shapeF_short hlt]; exact World.ownsRow_nil _ _ _ _, by rw [HF.out, Fp.shapeF_short hlt]; exact HR2.out, hg3⟩
        · have HG := Lib.hid (Fp.get_ok hlt)
          have ⟨hx0, hx1⟩ := Fp.two_bytes HR.out.2.1 hlt
          have HO := Lib.hid (Fp.shapeF_ok (c := k) (acc := acc) hlt)
          rw [HG.out] at hR2 ⊢
          have hc1 := hR2.cell1
          have HR2 := Lib.hid hR2
          have hown2 : w2.ownsRow w.heap.size 3 1 _ acc.length (acc.map (Value.int .i64)) := hown.kept hg2 (.inr (fun e => by have := (hown.lt r e).1; omega))
          have hsz2 := hg3.size
          clear hR2 hg hg2 hown
          generalize Fp.num (bs.take 2) = x at hx0 hx1 HO HG
          go_wp2_with (at_builtin; refine wpList_append_own _ rfl _ _ 25 rfl w.heap.size 3 i0 (.int .i64 0) 1 8 Try.underlying25 hi hz0 hz1 hz2 rfl (by decide) _ _ _ rfl (hown2.alloc _) ⟨w2.heap.size, 0, none⟩ 1 1 [.int .i64 x] rfl rfl ?c1 ?c2 ?c3 ?c4 ?c5 ?_)
          case c1 => exact one_new _ _ _
          case c2 => intro u hu; simp at hu; subst hu; rfl
          case c3 => unfold maxLen; omega
          case c4 => omega
          case c5 => simp; omega
          intro v' w3 hown3 hgrow _
          have hrow : ∀ k, u3.ownBlock = some k → r < k := fun k hk => by have := (hown2.lt k hk).1; omega
          have hR3 := (HR2.out.alloc (.cells #[.int .i64 x] 3)).grown hgrow hrow
          have hg4 : w.grownBy w3 (some r) := (hg3.trans (World.grownBy_alloc w2 _ (some r))).andThen hgrow (fun j hj => .inl (hown2.lt j hj).1)
          have hown4 : w3.ownsRow w.heap.size 3 1 v' (acc ++ [x]).length ((acc ++ [x]).map (Value.int .i64)) := by simpa using hown3
          clear hown3 hgrow hrow hown2 hg3 HR2 hc1 hcell
          go_wp2_with fail
          go_roundw
          case rel => exact ⟨k, acc ++ [x], some (bs.drop 2), by omega, by simp; omega, by go_num, hown4, hR3, hg4, by rw [HF.out, HO.out], by simp⟩
          case measure => simp [intOf]
end Go.Proofs.Ytnofeebcmmmlhaa
/- Layer 12 (file): Encode and Decode are inverse; what is cut off, extended or begins otherwise is refused: plain laws. -/
namespace Go.Proofs.Ytnofeebcmmmlhaa
namespace Fn
open Fp Fq
def w16 (z : Int) : Prop := 0 ≤ z ∧ z ≤ 65535
/-- A node whose numbers fit their places. -/
def fits (v : NodeD) : Prop := (0 ≤ v.op.kind ∧ v.op.kind ≤ 255) ∧ inR v.op.k ∧ (∀ z ∈ v.op.flds, w16 z) ∧ (v.op.s.length ≤ 255 ∧ ∀ z ∈ v.op.s, w16 z) ∧ (v.ins.length ≤ 255 ∧ ∀ z ∈ v.ins, w16 z) ∧ v.p.length ≤ 255 ∧ ∀ s ∈ v.p, s.length ≤ 255 ∧ ∀ z ∈ s, w16 z
def fitsN (n : NetD) : Prop := (n.inn.length ≤ 255 ∧ ∀ z ∈ n.inn, w16 z) ∧ n.nodes.length ≤ 65535 ∧ ∀ v ∈ n.nodes, fits v
theorem get_two {z : Int} (r : List Int) (h : w16 z) : get 2 (some (big z 2 ++ r)) = (z, some r) := by
  rw [get_big]; unfold w16 at h; simp; omega
theorem get_len {n : Nat} (r : List Int) (h : n ≤ 255) : get 1 (some (big (n : Int) 1 ++ r)) = ((n : Int), some r) := by
  rw [get_big]; simp; omega
theorem pairs_cons (z : Int) (l : List Int) : pairs (z :: l) = big z 2 ++ pairs l := rfl
theorem twos_at {l r : List Int} (h : ∀ z ∈ l, w16 z) : ∀ n, n ≤ l.length → twos n (some (pairs l ++ r)) = (l.take n, some (pairs (l.drop n) ++ r))
  | 0, _ => by simp [twos]
  | n + 1, hn => by
    have hlt : n < l.length := by omega
    rw [twos, twos_at h n (by omega), List.drop_eq_getElem_cons hlt]
    have e : pairs (l[n] :: l.drop (n + 1)) ++ r = big l[n] 2 ++ (pairs (l.drop (n + 1)) ++ r) := by rw [pairs_cons, List.append_assoc]
    rw [e, get_two _ (h _ (List.getElem_mem hlt)), List.take_succ_eq_append_getElem hlt]
theorem twos_pairs {l : List Int} (r : List Int) (h : ∀ z ∈ l, w16 z) : twos l.length (some (pairs l ++ r)) = (l, some r) := by
  rw [twos_at h _ (Nat.le_refl _)]; simp [pairs]
theorem insR_pairs : ∀ (l acc r : List Int), (∀ z ∈ l, w16 z) → insR l.length acc (some (pairs l ++ r)) = (acc ++ l, some r)
  | [], acc, r, _ => by simp [pairs, insR]
  | z :: l, acc, r, h => by
    have e : pairs (z :: l) ++ r = big z 2 ++ (pairs l ++ r) := by simp [pairs]
    rw [List.length_cons, insR, e, get_two _ (h z (by simp)), insR_pairs l _ r fun x hx => h x (by simp [hx])]
    simp
theorem psR_shapes : ∀ (l acc : List (List Int)) (r : List Int), (∀ s ∈ l, s.length ≤ 255 ∧ ∀ z ∈ s, w16 z) → psR l.length acc (some (l.flatMap Fp.shape ++ r)) = (acc ++ l, some r)
  | [], acc, r, _ => by simp [psR]
  | s :: l, acc, r, h => by
    have hs := h s (by simp)
    rw [List.length_cons, psR, List.flatMap_cons, List.append_assoc, shapeR_shape s _ hs.1 hs.2, psR_shapes l _ r fun x hx => h x (by simp [hx])]
    simp
theorem nodeB_eq (v : NodeD) (r : List Int) : nodeB v ++ r = big v.op.kind 1 ++ (big v.op.k 8 ++ (pairs v.op.flds ++ (Fp.shape v.op.s ++ (big v.ins.length 1 ++ (pairs v.ins ++ (big v.p.length 1 ++ (v.p.flatMap Fp.shape ++ r))))))) := by
  simp only [nodeB, nodeG, nodeF, nodeH, List.append_assoc]
theorem nodeR_node {v : NodeD} (h : fits v) (r : List Int) : nodeR (some (nodeB v ++ r)) = (v, some r) := by
  obtain ⟨h1, h2, h3, h4, h5, h6, h7⟩ := h
  have e1 : v.op.kind % 256 ^ 1 = v.op.kind := by simp; omega
  have e2 : sx (v.op.k % 256 ^ 8) = v.op.k := sx_mod h2
  rw [nodeB_eq]
  unfold nodeR
  rw [get_big, e1, get_big]
  unfold nodeK
  rw [e2, show (5 : Nat) = v.op.flds.length from rfl, twos_pairs _ h3]
  unfold nodeT
  rw [shapeR_shape _ _ h4.1 h4.2]
  unfold nodeS
  rw [get_len _ h5.1, Int.toNat_natCast, insR_pairs _ _ _ h5.2]
  unfold nodeI
  rw [get_len _ h6, Int.toNat_natCast, psR_shapes _ _ _ h7]
  rfl
theorem nodesR_nodes : ∀ (l acc : List NodeD) (r : List Int), (∀ v ∈ l, fits v) → nodesR l.length acc (some (l.flatMap nodeB ++ r)) = (acc ++ l, some r)
  | [], acc, r, _ => by simp [nodesR]
  | s :: l, acc, r, h => by
    rw [List.length_cons, nodesR, List.flatMap_cons, List.append_assoc, nodeR_node (h s (by simp)), nodesR_nodes l _ r fun x hx => h x (by simp [hx])]
    simp
def tail (n : NetD) : List Int := Fp.shape n.inn ++ (big n.nodes.length 2 ++ n.nodes.flatMap nodeB)
theorem body_eq (n : NetD) : body n = big 1096042545 4 ++ tail n := by simp only [body, head, tail, List.append_assoc]
theorem body_len4 (n : NetD) : 4 ≤ (body n).length := by rw [body_eq, List.length_append, big_length]; omega
theorem open_seal {b : List Int} (h : 4 ≤ b.length) : openE (b ++ big (sum b) 4) = 0 ∧ Fp.body (b ++ big (sum b) 4) = b := by
  have hl : (b ++ big (sum b) 4).length - 4 = b.length := by rw [List.length_append, big_length]; omega
  have hb : Fp.body (b ++ big (sum b) 4) = b := by unfold Fp.body; rw [hl, List.take_append_of_le_length (Nat.le_refl _), List.take_length]
  have hm : Fp.mark (b ++ big (sum b) 4) = big (sum b) 4 := by unfold Fp.mark; rw [hl, List.drop_append_of_le_length (Nat.le_refl _), List.drop_length, List.nil_append]
  refine ⟨?_, hb⟩
  unfold openE
  rw [if_neg (by rw [List.length_append, big_length]; omega), hb, hm, num_big, if_pos]
  have := sum_range b
  simp; omega
def dec (bs : List Int) : Int × NetD := decode bs (openE bs) (Fp.body bs)
theorem dec_seal {b : List Int} (h : 4 ≤ b.length) : dec (b ++ big (sum b) 4) = dec1 (get 4 (some b)) := by
  obtain ⟨h1, h2⟩ := open_seal h
  unfold dec decode
  rw [h1, h2]; simp
theorem dec2_tail {n : NetD} (h : fitsN n) (found : Int) (more : List Int) : dec1 (found, some (tail n ++ more)) = judge found n.inn (n.nodes, some more) := by
  obtain ⟨⟨h1, h2⟩, h3, h4⟩ := h
  unfold dec1 tail
  rw [List.append_assoc, shapeR_shape _ _ h1 h2]
  unfold dec2
  have e : (n.nodes.length : Int) % 256 ^ 2 = n.nodes.length := by simp; omega
  rw [List.append_assoc, get_big, e, Int.toNat_natCast, nodesR_nodes _ _ _ h4]
  rfl
theorem magic_get (r : List Int) : get 4 (some (big 1096042545 4 ++ r)) = (1096042545, some r) := get_big _ _ _
theorem dec_long {n : NetD} (h : fitsN n) (hc : Nt.check n = 0) (more : List Int) : dec ((body n ++ more) ++ big (sum (body n ++ more)) 4) = if more.length = 0 then (0, n) else (10, none_) := by
  rw [dec_seal (by have := body_len4 n; rw [List.length_append]; omega), body_eq, List.append_assoc, magic_get, dec2_tail h]
  unfold judge endO
  by_cases hm : more.length = 0
  · simp [hm, hc]
  · simp [hm]
theorem dec_enc {n : NetD} (h : fitsN n) (hc : Nt.check n = 0) : dec (enc n) = (0, n) := by
  have := dec_long h hc []
  rw [List.append_nil] at this
  exact this
theorem dec_other {n : NetD} (h : fitsN n) {x : List Int} (hx : x.length = 4) (hn : num x ≠ 1096042545) : (dec ((x ++ tail n) ++ big (sum (x ++ tail n)) 4)).1 = 10 := by
  have e : get 4 (some (x ++ tail n)) = (num x, some (tail n)) := by
    rw [get_ok (by rw [List.length_append]; omega), List.take_append_of_le_length (by omega), List.take_of_length_le (by omega), List.drop_append_of_le_length (by omega), List.drop_eq_nil_of_le (by omega)]; rfl
  have := dec2_tail h (num x) []
  rw [List.append_nil] at this
  rw [dec_seal (by rw [List.length_append]; omega), e, this]
  simp [judge, endO, hn]
/-- What falls short. -/
theorem twos_none : ∀ n, (twos n none).2 = none
  | 0 => rfl
  | n + 1 => by rw [twos, twos_none n]; rfl
theorem twos_pre : ∀ (n : Nat) (l p y : List Int), (∀ z ∈ l, w16 z) → l.length = n → p ++ y = pairs l → y ≠ [] → (twos n (some p)).2 = none := by
  intro n
  induction n with
  | zero =>
    intro l p y _ hl h hy
    rw [List.length_eq_zero_iff.1 hl] at h
    simp [pairs] at h
    exact absurd h.2 hy
  | succ n ih =>
    intro l p y hw hl h hy
    obtain ⟨a, z, rfl⟩ : ∃ a z, l = a ++ [z] := by
      have hne : l ≠ [] := by intro h; simp [h] at hl
      exact ⟨_, _, (List.dropLast_concat_getLast hne).symm⟩
    have hla : a.length = n := by simpa using hl
    have e : pairs (a ++ [z]) = pairs a ++ big z 2 := by simp [pairs]
    rw [e] at h
    rw [twos]
    rcases split h with ⟨c, hc, h1⟩ | ⟨c, rfl, h2⟩
    · rw [ih a p c (fun x hx => hw x (by simp [hx])) hla h1 hc]; rfl
    · rw [← hla, twos_pairs c (fun x hx => hw x (by simp [hx])), get_pre h2 hy]
theorem insR_pre : ∀ (l acc p y : List Int), (∀ z ∈ l, w16 z) → p ++ y = pairs l → y ≠ [] → (insR l.length acc (some p)).2 = none
  | [], acc, p, y, _, h, hy => by simp [pairs] at h; exact absurd h.2 hy
  | z :: l, acc, p, y, hw, h, hy => by
    have e : pairs (z :: l) = big z 2 ++ pairs l := by simp [pairs]
    rw [e] at h
    rw [List.length_cons, insR]
    rcases split h with ⟨c, hc, h1⟩ | ⟨c, rfl, h2⟩
    · rw [get_pre h1 hc, insR_short]
    · rw [get_two _ (hw z (by simp))]; exact insR_pre l _ c y (fun x hx => hw x (by simp [hx])) h2 hy
theorem psR_pre : ∀ (l acc : List (List Int)) (p y : List Int), (∀ s ∈ l, s.length ≤ 255 ∧ ∀ z ∈ s, w16 z) → p ++ y = l.flatMap Fp.shape → y ≠ [] → (psR l.length acc (some p)).2 = none
  | [], acc, p, y, _, h, hy => by simp at h; exact absurd h.2 hy
  | s :: l, acc, p, y, hw, h, hy => by
    rw [List.flatMap_cons] at h
    have hs := hw s (by simp)
    rw [List.length_cons, psR]
    rcases split h with ⟨c, hc, h1⟩ | ⟨c, rfl, h2⟩
    · rw [shapeR_pre hs.1 h1 hc, psR_short]
    · rw [shapeR_shape _ _ hs.1 hs.2]; exact psR_pre l _ c y (fun x hx => hw x (by simp [hx])) h2 hy
theorem nodeP_none (o : OpD) (i : List Int) (l : List (List Int)) : (nodeP o i (l, none)).2 = none := rfl
theorem nodeI_none (o : OpD) (i : List Int) : (nodeI o (i, none)).2 = none := rfl
theorem nodeS_none (kind k : Int) (l s : List Int) : (nodeS kind k l (s, none)).2 = none := rfl
theorem nodeT_none (kind k : Int) (l : List Int) : (nodeT kind k (l, none)).2 = none := rfl
theorem nodeK_none (kind k : Int) : (nodeK kind (k, none)).2 = none := rfl
theorem noK {kind k : Int} {r : List Int} (h : (nodeK kind (k, none)).2 = some r) : False := by rw [nodeK_none] at h; cases h
theorem noT {kind k : Int} {l : List Int} {r : List Int} (h : (nodeT kind k (l, none)).2 = some r) : False := by rw [nodeT_none] at h; cases h
theorem noS {kind k : Int} {l s : List Int} {r : List Int} (h : (nodeS kind k l (s, none)).2 = some r) : False := by rw [nodeS_none] at h; cases h
theorem noI {o : OpD} {i : List Int} {r : List Int} (h : (nodeI o (i, none)).2 = some r) : False := by rw [nodeI_none] at h; cases h
theorem noP {o : OpD} {i : List Int} {l : List (List Int)} {r : List Int} (h : (nodeP o i (l, none)).2 = some r) : False := by rw [nodeP_none] at h; cases h
theorem pair_eq {α β : Type} {p : α × β} {b : β} (h : p.2 = b) : p = (p.1, b) := by cases p; cases h; rfl
theorem nodeR_pre {v : NodeD} (h : fits v) {p y : List Int} (hp : p ++ y = nodeB v) (hy : y ≠ []) : (nodeR (some p)).2 = none := by
  obtain ⟨h1, h2, h3, h4, h5, h6, h7⟩ := h
  have hq := nodeB_eq v []
  rw [List.append_nil, List.append_nil] at hq
  rw [hq] at hp
  unfold nodeR
  rcases split hp with ⟨c, hc, e1⟩ | ⟨p1, rfl, hp1⟩
  · rw [get_pre e1 hc]; rfl
  rw [get_big]
  rcases split hp1 with ⟨c, hc, e1⟩ | ⟨p2, rfl, hp2⟩
  · rw [get_pre e1 hc]; rfl
  rw [get_big]
  unfold nodeK
  rcases split hp2 with ⟨c, hc, e1⟩ | ⟨p3, rfl, hp3⟩
  · rw [pair_eq (twos_pre 5 v.op.flds p2 c h3 rfl e1 hc)]; rfl
  rw [show (5 : Nat) = v.op.flds.length from rfl, twos_pairs _ h3]
  unfold nodeT
  rcases split hp3 with ⟨c, hc, e1⟩ | ⟨p4, rfl, hp4⟩
  · rw [pair_eq (shapeR_pre h4.1 e1 hc)]; rfl
  rw [shapeR_shape _ _ h4.1 h4.2]
  unfold nodeS
  rcases split hp4 with ⟨c, hc, e1⟩ | ⟨p5, rfl, hp5⟩
  · rw [get_pre e1 hc]; rfl
  rw [get_len _ h5.1, Int.toNat_natCast]
  rcases split hp5 with ⟨c, hc, e1⟩ | ⟨p6, rfl, hp6⟩
  · rw [pair_eq (insR_pre v.ins [] p5 c h5.2 e1 hc)]; rfl
  rw [insR_pairs _ _ _ h5.2]
  unfold nodeI
  rcases split hp6 with ⟨c, hc, e1⟩ | ⟨p7, rfl, hp7⟩
  · rw [get_pre e1 hc]; rfl
  rw [get_len _ h6, Int.toNat_natCast]
  exact psR_pre v.p [] p7 y h7 hp7 hy
theorem nodesR_pre : ∀ (l acc : List NodeD) (p y : List Int), (∀ v ∈ l, fits v) → p ++ y = l.flatMap nodeB → y ≠ [] → (nodesR l.length acc (some p)).2 = none
  | [], acc, p, y, _, h, hy => by simp at h; exact absurd h.2 hy
  | s :: l, acc, p, y, hw, h, hy => by
    rw [List.flatMap_cons] at h
    rw [List.length_cons, nodesR]
    rcases split h with ⟨c, hc, h1⟩ | ⟨c, rfl, h2⟩
    · rw [nodeR_pre (hw s (by simp)) h1 hc, nodesR_short]
    · rw [nodeR_node (hw s (by simp))]; exact nodesR_pre l _ c y (fun x hx => hw x (by simp [hx])) h2 hy
theorem judge_short (found : Int) (inn : List Int) (l : List NodeD) : (judge found inn (l, none)).1 = 16 := rfl
theorem dec_cut {n : NetD} (h : fitsN n) {p y : List Int} (hp : p ++ y = body n) (hy : y ≠ []) (h4 : 4 ≤ p.length) : (dec (p ++ big (sum p) 4)).1 = 16 := by
  obtain ⟨⟨h1, h2⟩, h3, h5⟩ := h
  rw [dec_seal h4]
  rw [body_eq] at hp
  rcases split hp with ⟨c, hc, e1⟩ | ⟨c, rfl, e2⟩
  · have := congrArg List.length e1
    rw [List.length_append, big_length] at this
    have : 0 < c.length := List.length_pos_iff.2 hc
    omega
  · rw [magic_get]
    unfold dec1
    unfold tail at e2
    rcases split e2 with ⟨d, hd, e3⟩ | ⟨d, rfl, e4⟩
    · rw [pair_eq (shapeR_pre h1 e3 hd)]; rfl
    · rw [shapeR_shape _ _ h1 h2]
      unfold dec2
      rcases split e4 with ⟨d, hd, e3⟩ | ⟨d, rfl, e5⟩
      · rw [get_pre e3 hd]; rfl
      · have e : (n.nodes.length : Int) % 256 ^ 2 = n.nodes.length := by simp; omega
        rw [get_big, e, Int.toNat_natCast, pair_eq (nodesR_pre n.nodes [] d y h5 e5 hy)]
        rfl
/-- What was read was written. -/
theorem twos_inv : ∀ (n : Nat) {bs r : List Int}, (∀ x ∈ bs, 0 ≤ x ∧ x ≤ 255) → (twos n (some bs)).2 = some r → bs = pairs (twos n (some bs)).1 ++ r
  | 0, bs, r, _, h => by simp [twos] at h; simp [twos, pairs, h]
  | n + 1, bs, r, hb, h => by
    rw [twos] at h ⊢
    cases hq : (twos n (some bs)).2 with
    | none => rw [hq] at h; cases h
    | some q =>
      have ih := twos_inv n hb hq
      have hqb : ∀ x ∈ q, 0 ≤ x ∧ x ≤ 255 := fun x hx => hb x (by rw [ih]; exact List.mem_append_right _ hx)
      rw [hq] at h
      have h2 := (get_inv hqb h).1
      show bs = pairs ((twos n (some bs)).1 ++ [(get 2 (some q)).1]) ++ r
      have e : pairs ((twos n (some bs)).1 ++ [(get 2 (some q)).1]) = pairs (twos n (some bs)).1 ++ big (get 2 (some q)).1 2 := by simp [pairs]
      rw [e, List.append_assoc, ← h2]; exact ih
theorem insR_inv : ∀ (c : Nat) (acc : List Int) {bs r : List Int}, (∀ x ∈ bs, 0 ≤ x ∧ x ≤ 255) → (insR c acc (some bs)).2 = some r → ∃ l, (insR c acc (some bs)).1 = acc ++ l ∧ l.length = c ∧ bs = pairs l ++ r
  | 0, acc, bs, r, _, h => by simp [insR] at h; exact ⟨[], by simp [insR], rfl, by simp [pairs, h]⟩
  | c + 1, acc, bs, r, hb, h => by
    rw [insR] at h ⊢
    cases hq : (get 2 (some bs)).2 with
    | none => rw [hq, insR_short] at h; cases h
    | some q =>
      have h1 := (get_inv hb hq).1
      have hqb : ∀ x ∈ q, 0 ≤ x ∧ x ≤ 255 := fun x hx => hb x (by rw [h1]; exact List.mem_append_right _ hx)
      rw [hq] at h
      obtain ⟨l, e1, e2, e3⟩ := insR_inv c _ hqb h
      refine ⟨(get 2 (some bs)).1 :: l, by rw [e1]; simp, by simp [e2], ?_⟩
      have e : pairs ((get 2 (some bs)).1 :: l) ++ r = big (get 2 (some bs)).1 2 ++ (pairs l ++ r) := by simp [pairs]
      rw [e, ← e3]; exact h1
theorem psR_inv : ∀ (c : Nat) (acc : List (List Int)) {bs r : List Int}, (∀ x ∈ bs, 0 ≤ x ∧ x ≤ 255) → (psR c acc (some bs)).2 = some r → ∃ l, (psR c acc (some bs)).1 = acc ++ l ∧ l.length = c ∧ bs = l.flatMap Fp.shape ++ r
  | 0, acc, bs, r, _, h => by simp [psR] at h; exact ⟨[], by simp [psR], rfl, by simp [h]⟩
  | c + 1, acc, bs, r, hb, h => by
    rw [psR] at h ⊢
    cases hq : (shapeR (some bs)).2 with
    | none => rw [hq, psR_short] at h; cases h
    | some q =>
      have h1 := shapeR_inv hb hq
      have hqb : ∀ x ∈ q, 0 ≤ x ∧ x ≤ 255 := fun x hx => hb x (by rw [h1]; exact List.mem_append_right _ hx)
      rw [hq] at h
      obtain ⟨l, e1, e2, e3⟩ := psR_inv c _ hqb h
      refine ⟨(shapeR (some bs)).1 :: l, by rw [e1]; simp, by simp [e2], ?_⟩
      rw [List.flatMap_cons, List.append_assoc, ← e3]; exact h1
theorem tail_byte {bs a r : List Int} (hb : ∀ x ∈ bs, 0 ≤ x ∧ x ≤ 255) (h : bs = a ++ r) : ∀ x ∈ r, 0 ≤ x ∧ x ≤ 255 := fun x hx => hb x (by rw [h]; exact List.mem_append_right _ hx)
theorem flds_opOf {l : List Int} (kind k : Int) (s : List Int) (h : l.length = 5) : (opOf kind k l s).flds = l := by
  match l, h with
  | [a, b, c, d, e], _ => rfl
theorem nodeR_inv {bs r : List Int} (hb : ∀ x ∈ bs, 0 ≤ x ∧ x ≤ 255) (h : (nodeR (some bs)).2 = some r) : bs = nodeB (nodeR (some bs)).1 ++ r := by
  unfold nodeR at h ⊢
  cases h1 : (get 1 (some bs)).2 with
  | none => rw [h1] at h; exact (noK (k := 0) h).elim
  | some b1 =>
  rw [h1] at h
  obtain ⟨i1, _, _⟩ := get_inv hb h1
  have hb1 := tail_byte hb i1
  generalize (get 1 (some bs)).1 = kind at *
  cases h2 : (get 8 (some b1)).2 with
  | none => rw [pair_eq h2] at h; exact (noK h).elim
  | some b2 =>
  rw [pair_eq h2] at h ⊢
  obtain ⟨i2, _, _⟩ := get_inv hb1 h2
  have hb2 := tail_byte hb1 i2
  generalize (get 8 (some b1)).1 = k at *
  unfold nodeK at h ⊢
  cases h3 : (twos 5 (some b2)).2 with
  | none => rw [pair_eq h3] at h; exact (noT h).elim
  | some b3 =>
  rw [pair_eq h3] at h ⊢
  have i3 := twos_inv 5 hb2 h3
  have hl := twos_len 5 (some b2)
  have hb3 := tail_byte hb2 i3
  generalize (twos 5 (some b2)).1 = l at *
  unfold nodeT at h ⊢
  cases h4 : (shapeR (some b3)).2 with
  | none => rw [pair_eq h4] at h; exact (noS h).elim
  | some b4 =>
  rw [pair_eq h4] at h ⊢
  have i4 := shapeR_inv hb3 h4
  have hb4 := tail_byte hb3 i4
  generalize (shapeR (some b3)).1 = s at *
  unfold nodeS at h ⊢
  cases h5 : (get 1 (some b4)).2 with
  | none => rw [pair_eq h5] at h; simp only [insR_short] at h; exact (noI h).elim
  | some b5 =>
  rw [pair_eq h5] at h ⊢
  obtain ⟨i5, j5, _⟩ := get_inv hb4 h5
  have hb5 := tail_byte hb4 i5
  generalize (get 1 (some b4)).1 = ni at *
  cases h6 : (insR ni.toNat [] (some b5)).2 with
  | none => rw [pair_eq h6] at h; exact (noI h).elim
  | some b6 =>
  rw [pair_eq h6] at h ⊢
  obtain ⟨ii, e6, l6, i6⟩ := insR_inv _ _ hb5 h6
  have hb6 := tail_byte hb5 i6
  rw [List.nil_append] at e6
  rw [e6] at h ⊢
  unfold nodeI at h ⊢
  dsimp only at h ⊢
  cases h7 : (get 1 (some b6)).2 with
  | none => rw [pair_eq h7] at h; simp only [psR_short] at h; exact (noP h).elim
  | some b7 =>
  rw [pair_eq h7] at h ⊢
  obtain ⟨i7, j7, _⟩ := get_inv hb6 h7
  have hb7 := tail_byte hb6 i7
  generalize (get 1 (some b6)).1 = np at *
  have h8 : (psR np.toNat [] (some b7)).2 = some r := h
  obtain ⟨pp, e8, l8, i8⟩ := psR_inv _ _ hb7 h8
  rw [List.nil_append] at e8
  have hv : (nodeP (opOf kind (sx k) l s) ii (psR np.toNat [] (some b7))).1 = ⟨opOf kind (sx k) l s, ii, pp⟩ := by unfold nodeP; rw [e8]
  show bs = nodeB (nodeP (opOf kind (sx k) l s) ii (psR np.toNat [] (some b7))).1 ++ r
  rw [hv, nodeB_eq]
  simp only [flds_opOf _ _ _ hl]
  show bs = big kind 1 ++ (big (sx k) 8 ++ (pairs l ++ (Fp.shape s ++ (big ii.length 1 ++ (pairs ii ++ (big pp.length 1 ++ (pp.flatMap Fp.shape ++ r)))))))
  rw [sx_big, l6, l8, Int.toNat_of_nonneg j5, Int.toNat_of_nonneg j7, ← i8, ← i7, ← i6, ← i5, ← i4, ← i3, ← i2, ← i1]
theorem nodesR_inv : ∀ (c : Nat) (acc : List NodeD) {bs r : List Int}, (∀ x ∈ bs, 0 ≤ x ∧ x ≤ 255) → (nodesR c acc (some bs)).2 = some r → ∃ l, (nodesR c acc (some bs)).1 = acc ++ l ∧ l.length = c ∧ bs = l.flatMap nodeB ++ r
  | 0, acc, bs, r, _, h => by simp [nodesR] at h; exact ⟨[], by simp [nodesR], rfl, by simp [h]⟩
  | c + 1, acc, bs, r, hb, h => by
    rw [nodesR] at h ⊢
    cases hq : (nodeR (some bs)).2 with
    | none => rw [hq, nodesR_short] at h; cases h
    | some q =>
      have h1 := nodeR_inv hb hq
      rw [hq] at h
      obtain ⟨l, e1, e2, e3⟩ := nodesR_inv c _ (tail_byte hb h1) h
      refine ⟨(nodeR (some bs)).1 :: l, by rw [e1]; simp, by simp [e2], ?_⟩
      rw [List.flatMap_cons, List.append_assoc, ← e3]; exact h1
theorem judge_zero {found : Int} {inn : List Int} {q : List NodeD × St} (h : (judge found inn q).1 = 0) : found = 1096042545 ∧ q.2 = some [] ∧ Nt.check ⟨inn, q.1⟩ = 0 ∧ (judge found inn q).2 = ⟨inn, q.1⟩ := by
  unfold judge at h ⊢
  by_cases h1 : endO q.2 = 16
  · simp [h1] at h
  by_cases h2 : found ≠ 1096042545
  · simp [h1, h2] at h
  by_cases h3 : endO q.2 ≠ 0
  · rw [if_neg h1, if_neg h2, if_pos h3] at h; exact absurd h h3
  by_cases h4 : Nt.check ⟨inn, q.1⟩ ≠ 0
  · rw [if_neg h1, if_neg h2, if_neg h3, if_pos h4] at h; exact absurd h h4
  refine ⟨by omega, ?_, by omega, by rw [if_neg h1, if_neg h2, if_neg h3, if_neg h4]⟩
  cases hq : q.2 with
  | none => rw [hq] at h1; exact absurd rfl h1
  | some bs =>
    rw [hq] at h3
    unfold endO at h3
    by_cases hl : bs.length = 0
    · rw [List.eq_nil_of_length_eq_zero hl]
    · simp [hl] at h3
theorem dec_inv {bs : List Int} (hb : ∀ x ∈ bs, 0 ≤ x ∧ x ≤ 255) (h : (dec bs).1 = 0) : Nt.check (dec bs).2 = 0 ∧ enc (dec bs).2 = bs := by
  unfold dec decode at h ⊢
  by_cases ho : openE bs = 0
  · simp only [ho, ne_eq, not_true, if_false] at h ⊢
    have hbb : ∀ x ∈ Fp.body bs, 0 ≤ x ∧ x ≤ 255 := fun x hx => hb x (List.mem_of_mem_take hx)
    have hbm : ∀ x ∈ Fp.mark bs, 0 ≤ x ∧ x ≤ 255 := fun x hx => hb x (List.mem_of_mem_drop hx)
    have hcat : Fp.body bs ++ Fp.mark bs = bs := List.take_append_drop _ _
    have hmark : Fp.mark bs = big (sum (Fp.body bs)) 4 := by
      unfold openE at ho
      by_cases h8 : bs.length < 8
      · simp [h8] at ho
      · simp only [h8, if_false] at ho
        by_cases hs : num (Fp.mark bs) = sum (Fp.body bs)
        · have hl : (Fp.mark bs).length = 4 := by unfold Fp.mark; rw [List.length_drop]; omega
          have := big_num (Fp.mark bs) hbm
          rw [hl, hs] at this
          exact this.symm
        · simp [hs] at ho
    unfold dec1 dec2 at h ⊢
    obtain ⟨z1, z2, z3, z4⟩ := judge_zero h
    rw [z4]
    cases h1 : (get 4 (some (Fp.body bs))).2 with
    | none => rw [h1] at z2; exact absurd z2 (by simp [shapeR, Fp.get, nodesR_short])
    | some b1 =>
    obtain ⟨i1, _, _⟩ := get_inv hbb h1
    have hb1 := tail_byte hbb i1
    rw [h1] at z2 z3
    cases h2 : (shapeR (some b1)).2 with
    | none => rw [h2] at z2; exact absurd z2 (by simp [Fp.get, nodesR_short])
    | some b2 =>
    have i2 := shapeR_inv hb1 h2
    have hb2 := tail_byte hb1 i2
    rw [h2] at z2 z3
    cases h3 : (get 2 (some b2)).2 with
    | none => rw [h3] at z2; exact absurd z2 (by simp [nodesR_short])
    | some b3 =>
    obtain ⟨i3, j3, _⟩ := get_inv hb2 h3
    have hb3 := tail_byte hb2 i3
    rw [h3] at z2 z3
    obtain ⟨l, e4, l4, i4⟩ := nodesR_inv _ _ hb3 z2
    rw [List.nil_append] at e4
    rw [e4] at z3 ⊢
    refine ⟨z3, ?_⟩
    have hbody : body ⟨(shapeR (some b1)).1, l⟩ = Fp.body bs := by
      rw [body_eq]
      unfold tail
      show big 1096042545 4 ++ (Fp.shape (shapeR (some b1)).1 ++ (big (l.length : Int) 2 ++ l.flatMap nodeB)) = _
      rw [l4, Int.toNat_of_nonneg j3]
      rw [List.append_nil] at i4
      rw [← i4, ← i3, ← i2, i1, z1]
    rw [enc, hbody, ← hmark, hcat]
  · simp only [ne_eq, ho, not_false_eq_true, if_true] at h
end Fn
end Go.Proofs.Ytnofeebcmmmlhaa
/- Layer 12 (file): a right net's numbers fit their places: plain law. -/
namespace Go.Proofs.Ytnofeebcmmmlhaa
namespace Fn
theorem right_w16 {s : List Int} (h : Sh.right s = true) : s.length ≤ 4 ∧ ∀ z ∈ s, 1 ≤ z ∧ z ≤ 1024 := by
  obtain ⟨_, h1, h2, h3, _, _⟩ := Sh.right_mul h
  exact ⟨by omega, fun z hz => h3 z hz⟩
theorem window_step {side width step : Int} (h : (Od.window side width step).2 = 0) : (1 ≤ width ∧ width ≤ 1024) ∧ 1 ≤ step ∧ step ≤ 1024 := by
  unfold Od.window at h
  split at h
  · rename_i hc; exact ⟨(Sh.side_iff _).1 hc.2.1, (Sh.side_iff _).1 hc.2.2.1⟩
  · simp at h
theorem inR_le {side : Int} {s : List Int} (h : Od.inR side s = true) (hs : Sh.right s = true) : 0 ≤ side ∧ side ≤ 3 := by
  have := (right_w16 hs).1
  simp [Od.inR] at h
  omega
theorem op_fits {o : OpD} {p x : List (List Int)} (h : (Od.shape o p x).2 = 0) : (0 ≤ o.kind ∧ o.kind ≤ 255) ∧ (∀ z ∈ o.flds, w16 z) ∧ o.s.length ≤ 4 ∧ ∀ z ∈ o.s, w16 z := by
  obtain ⟨hr, hl, -, -, hp, hx, e⟩ := Od.shape_ok h
  have hk := Od.right_kind hr
  have hl1 := Od.least_pos hr
  have hx0 := Od.all_getD0 hx (by omega)
  rw [e] at h
  have hu : o = Od.used o := by simp [Od.right] at hr; exact hr.2
  unfold Od.used at hu
  unfold Od.byKind at h
  have key : (0 ≤ o.width ∧ o.width ≤ 1024) → (0 ≤ o.step ∧ o.step ≤ 1024) → (0 ≤ o.side ∧ o.side ≤ 1024) → (0 ≤ o.frm ∧ o.frm ≤ 1024) → (0 ≤ o.to ∧ o.to ≤ 1024) → (o.s = [] ∨ Sh.right o.s = true) →
      (0 ≤ o.kind ∧ o.kind ≤ 255) ∧ (∀ z ∈ o.flds, w16 z) ∧ o.s.length ≤ 4 ∧ ∀ z ∈ o.s, w16 z := by
    intro k1 k2 k3 k4 k5 k6
    refine ⟨by omega, ?_, ?_⟩
    · intro z hz
      simp only [OpD.flds, List.mem_cons, List.not_mem_nil, or_false] at hz
      unfold w16
      rcases hz with rfl | rfl | rfl | rfl | rfl <;> omega
    · rcases k6 with k6 | k6
      · rw [k6]; simp
      · obtain ⟨q1, q2⟩ := right_w16 k6
        exact ⟨q1, fun z hz => by have := q2 z hz; unfold w16; omega⟩
  by_cases h25 : o.kind = 2 ∨ o.kind = 5
  · rw [if_pos h25] at hu
    exact key (by have e := show o.width = 0 from congrArg OpD.width hu; omega) (by have e := show o.step = 0 from congrArg OpD.step hu; omega) (by have e := show o.side = 0 from congrArg OpD.side hu; omega) (by have e := show o.frm = 0 from congrArg OpD.frm hu; omega) (by have e := show o.to = 0 from congrArg OpD.to hu; omega) (.inl (congrArg OpD.s hu))
  rw [if_neg h25] at hu
  by_cases h10 : o.kind = 10
  · rw [if_pos h10] at hu
    rw [if_neg (by omega), if_neg (by omega), if_pos h10] at h
    have hst : 1 ≤ o.step ∧ o.step ≤ 1024 := by
      unfold Od.conv at h
      split at h
      · rename_i hc
        split at h
        · rename_i hw
          simp only [Bool.and_eq_true, decide_eq_true_eq] at hc
          have := List.all_eq_true.1 hw 0 (by rw [List.mem_range]; omega)
          simp only [decide_eq_true_eq] at this
          exact (window_step this).2
        · simp at h
      · simp at h
    exact key (by have e := show o.width = 0 from congrArg OpD.width hu; omega) (by omega) (by have e := show o.side = 0 from congrArg OpD.side hu; omega) (by have e := show o.frm = 0 from congrArg OpD.frm hu; omega) (by have e := show o.to = 0 from congrArg OpD.to hu; omega) (.inl (congrArg OpD.s hu))
  rw [if_neg h10] at hu
  by_cases h11 : o.kind = 11 ∨ o.kind = 12
  · rw [if_pos h11] at hu
    rw [if_neg (by omega), if_neg (by omega), if_neg (by omega), if_pos h11] at h
    have hst : (1 ≤ o.width ∧ o.width ≤ 1024) ∧ 1 ≤ o.step ∧ o.step ≤ 1024 := by
      clear hu key
      unfold Od.pool at h
      rw [if_pos hx0] at h
      split at h
      · rename_i hw; exact window_step hw
      · simp at h
    exact key (by omega) (by omega) (by have e := show o.side = 0 from congrArg OpD.side hu; omega) (by have e := show o.frm = 0 from congrArg OpD.frm hu; omega) (by have e := show o.to = 0 from congrArg OpD.to hu; omega) (.inl (congrArg OpD.s hu))
  rw [if_neg h11] at hu
  by_cases h13 : o.kind = 13
  · rw [if_pos h13] at hu
    rw [if_neg (by omega), if_neg (by omega), if_neg (by omega), if_neg (by omega), if_pos h13] at h
    have hsd : Od.inR o.side (x.getD 0 []) = true := by
      unfold Od.joined at h
      split at h
      · simp at h
      · rename_i hc
        by_cases h1 : x.length = 1
        · cases hi : Od.inR o.side (x.getD 0 [])
          · exact absurd ⟨h1, hi⟩ hc
          · rfl
        · match x, hl with
          | a :: b :: r, _ =>
            simp only [List.drop_succ_cons, List.drop_zero] at h
            rw [Od.joinAll] at h
            split at h
            · rename_i hj
              unfold Od.join at hj
              split at hj
              · split at hj
                · rename_i hi; exact hi
                · simp at hj
              · simp at hj
            · rename_i hj; exact absurd h hj
          | [a], _ => exact absurd rfl h1
          | [], hl => simp at hl; omega
    have := inR_le hsd hx0
    exact key (by have e := show o.width = 0 from congrArg OpD.width hu; omega) (by have e := show o.step = 0 from congrArg OpD.step hu; omega) (by omega) (by have e := show o.frm = 0 from congrArg OpD.frm hu; omega) (by have e := show o.to = 0 from congrArg OpD.to hu; omega) (.inl (congrArg OpD.s hu))
  rw [if_neg h13] at hu
  by_cases h14 : o.kind = 14
  · rw [if_pos h14] at hu
    rw [if_neg (by omega), if_neg (by omega), if_neg (by omega), if_neg (by omega), if_neg (by omega), if_pos h14] at h
    unfold Od.cut at h
    rw [if_pos hx0] at h
    split at h
    · rename_i hc
      rw [Bool.and_eq_true, decide_eq_true_eq] at hc
      obtain ⟨hi, c1, c2, c3⟩ := hc
      have hsd := inR_le hi hx0
      have hat : Od.at_ (x.getD 0 []) o.side ≤ 1024 := by
        unfold Od.at_
        by_cases hlt : o.side.toNat < (x.getD 0 []).length
        · rw [List.getD_eq_getElem?_getD, List.getElem?_eq_getElem hlt]
          exact ((right_w16 hx0).2 _ (List.getElem_mem hlt)).2
        · rw [List.getD_eq_getElem?_getD, List.getElem?_eq_none (by omega)]; simp
      exact key (by have e := show o.width = 0 from congrArg OpD.width hu; omega) (by have e := show o.step = 0 from congrArg OpD.step hu; omega) (by omega) (by omega) (by omega) (.inl (congrArg OpD.s hu))
    · simp at h
  rw [if_neg h14] at hu
  by_cases h15 : o.kind = 15
  · rw [if_pos h15] at hu
    rw [if_neg (by omega), if_neg (by omega), if_neg (by omega), if_neg (by omega), if_neg (by omega), if_neg (by omega), if_pos h15] at h
    have hs : Sh.right o.s = true := by
      unfold Od.turned at h
      split at h
      · rename_i hc
        simp only [Bool.and_eq_true] at hc
        exact hc.1.2
      · simp at h
    exact key (by have e := show o.width = 0 from congrArg OpD.width hu; omega) (by have e := show o.step = 0 from congrArg OpD.step hu; omega) (by have e := show o.side = 0 from congrArg OpD.side hu; omega) (by have e := show o.frm = 0 from congrArg OpD.frm hu; omega) (by have e := show o.to = 0 from congrArg OpD.to hu; omega) (.inr hs)
  rw [if_neg h15] at hu
  exact key (by have e := show o.width = 0 from congrArg OpD.width hu; omega) (by have e := show o.step = 0 from congrArg OpD.step hu; omega) (by have e := show o.side = 0 from congrArg OpD.side hu; omega) (by have e := show o.frm = 0 from congrArg OpD.frm hu; omega) (by have e := show o.to = 0 from congrArg OpD.to hu; omega) (.inl (congrArg OpD.s hu))
theorem params_le (o : OpD) : Od.params o ≤ 2 := by
  unfold Od.params
  split
  · split
    · omega
    · split <;> omega
  · omega
/-- All that a right net's nodes hold is small. -/
theorem check_node {n : NetD} (h : Nt.check n = 0) : n.inn.length ≤ 4 ∧ (∀ z ∈ n.inn, w16 z) ∧ n.nodes.length ≤ 512 ∧ ∀ v ∈ n.nodes, (0 ≤ v.op.kind ∧ v.op.kind ≤ 255) ∧ (∀ z ∈ v.op.flds, w16 z) ∧ (v.op.s.length ≤ 4 ∧ ∀ z ∈ v.op.s, w16 z) ∧ (v.ins.length ≤ 8 ∧ ∀ z ∈ v.ins, w16 z) ∧ v.p.length ≤ 2 ∧ ∀ s ∈ v.p, s.length ≤ 4 ∧ ∀ z ∈ s, w16 z := by
  obtain ⟨h1, h2, h3, h4, -⟩ := Nt.check_ok h
  obtain ⟨i1, i2⟩ := right_w16 h3
  refine ⟨i1, fun z hz => by have := i2 z hz; unfold w16; omega, h2, fun v hv => ?_⟩
  obtain ⟨k, hk, rfl⟩ := List.mem_iff_getElem.1 hv
  have hs := Nt.shapes_node h hk
  have hs0 : (Od.shape n.nodes[k].op n.nodes[k].p (Nt.pick (Nt.shapes n) n.nodes[k].ins)).2 = 0 := by rw [hs]
  obtain ⟨q1, q2, q3, q4⟩ := op_fits hs0
  obtain ⟨hr, hl, hm, hpl, hp, hx, e⟩ := Od.shape_ok hs0
  have hmost := Od.most_le hr
  have hpk : (Nt.pick (Nt.shapes n) n.nodes[k].ins).length = n.nodes[k].ins.length := by unfold Nt.pick; rw [List.length_map]
  have hpar := params_le n.nodes[k].op
  obtain ⟨-, hb⟩ := Nt.bads_all h4 _ hv
  refine ⟨q1, q2, ⟨q3, q4⟩, ⟨by omega, fun z hz => by have := hb z hz; unfold w16; omega⟩, by omega, fun s hs => ?_⟩
  obtain ⟨j1, j2⟩ := right_w16 (List.all_eq_true.1 hp s hs)
  exact ⟨j1, fun z hz => by have := j2 z hz; unfold w16; omega⟩
theorem fitsN_of {n : NetD} (hok : n.ok) (h : Nt.check n = 0) : fitsN n := by
  obtain ⟨h1, h2, h3, h4⟩ := check_node h
  refine ⟨⟨by omega, h2⟩, by omega, fun v hv => ?_⟩
  obtain ⟨q1, q2, q3, q4, q5, q6⟩ := h4 v hv
  have hk := (hok.2.2 v hv).1 v.op.k (by simp)
  exact ⟨q1, hk, q2, ⟨by omega, q3.2⟩, ⟨by omega, q4.2⟩, by omega, fun s hs => ⟨by have := (q6 s hs).1; omega, (q6 s hs).2⟩⟩
/-- A right net's rows are short. -/
theorem check_tiny {n : NetD} (h : Nt.check n = 0) : n.inn.length ≤ 4 ∧ n.nodes.length ≤ 512 ∧ ∀ v ∈ n.nodes, tiny v := by
  obtain ⟨h1, h2, h3, h4⟩ := check_node h
  refine ⟨h1, h3, fun v hv => ?_⟩
  obtain ⟨q1, q2, q3, q4, q5, q6⟩ := h4 v hv
  exact ⟨by omega, by omega, by omega, fun s hs => by have := (q6 s hs).1; omega⟩
end Fn
end Go.Proofs.Ytnofeebcmmmlhaa
/- A row of rows of numbers, each with memory of its own: who uses what. No program is named here. -/
namespace Go.Proofs.Ytnofeebcmmmlhaa
open Go.RowKit

/-- The block g is a row of rows of the call's own, apart from one another and from the blocks X. -/
def URow (X : Nat → Prop) (B : Nat) (w : World) (g : Nat) (t e : TypeId) (us : List (List Int)) : Prop :=
  X g ∧ ∃ vs : List Value, vs.length = us.length ∧ Blk w g t vs.toArray ∧
    (∀ j (hj : j < us.length) v, vs[j]? = some v → w.ownsRow B e 1 v us[j].length (us[j].map (Value.int .i64))) ∧
    (∀ (j : Nat) (v : Value) (b : Nat), vs[j]? = some v → v.ownBlock = some b → ¬ X b) ∧
    (∀ (i j : Nat) (u v : Value) (b : Nat), i ≠ j → vs[i]? = some u → vs[j]? = some v → u.ownBlock = some b → v.ownBlock ≠ some b)
section
variable {X : Nat → Prop} {B : Nat} {w w' : World} {g : Nat} {t e : TypeId} {us : List (List Int)}
theorem URow.lt (h : URow X B w g t e us) : g < w.heap.size := by obtain ⟨_, vs, _, hb, _⟩ := h; exact hb.lt
theorem URow.agree (h : URow X B w g t e us) (ha : ∀ b, b < w.heap.size → (b = g ∨ ¬ X b) → w'.heap[b]? = w.heap[b]?) : URow X B w' g t e us := by
  obtain ⟨hg, vs, hl, hk, ho, hx, hd⟩ := h
  refine ⟨hg, vs, hl, (ha g hk.lt (.inl rfl)).trans hk, fun j hj v hv => ?_, hx, hd⟩
  exact ownsRow_heap (ho j hj v hv) fun b hb => ha b ((ho j hj v hv).lt b hb).2 (.inr (hx j v b hv hb))
theorem URow.new {n : Nat} (hX : X g) (h : Blk w g t (List.replicate n (Value.slice none 0 0)).toArray) : URow X B w g t e (List.replicate n []) := by
  refine ⟨hX, List.replicate n (.slice none 0 0), by simp, h, fun j hj v hv => ?_, fun j v b hv hb => ?_, fun i j u v b _ hu _ hb => ?_⟩
  · rw [List.getElem?_replicate] at hv
    split at hv
    · injection hv with hv
      subst hv
      simpa using World.ownsRow_nil w B e 1
    · cases hv
  · rw [List.getElem?_replicate] at hv
    split at hv
    · injection hv with hv; subst hv; simp [Value.ownBlock] at hb
    · cases hv
  · rw [List.getElem?_replicate] at hu
    split at hu
    · injection hu with hu; subst hu; simp [Value.ownBlock] at hb
    · cases hu
/-- A place, and what an append there leaves. -/
theorem URow.at_ (h : URow X B w g t e us) (hlt : ∀ b, X b → b < w.heap.size) {j : Nat} (hj : j < us.length) :
    ∃ v, w.cell? ⟨g, j, none⟩ = some v ∧ w.ownsRow B e 1 v us[j].length (us[j].map (Value.int .i64)) ∧ (∀ b, v.ownBlock = some b → ¬ X b) ∧
      ∀ v' w1 x, w1.ownsRow B e 1 v' (us[j].length + 1) (us[j].map (Value.int .i64) ++ [.int .i64 x]) → w.grownBy w1 v.ownBlock → (v'.ownBlock = v.ownBlock ∨ v'.ownBlock = some w.heap.size) →
        URow X B (w1.setCell ⟨g, j, none⟩ v') g t e (us.set j (us[j] ++ [x])) := by
  obtain ⟨hg, vs, hl, hk, ho, hx, hd⟩ := h
  obtain ⟨v, hv⟩ : ∃ v, vs[j]? = some v := ⟨vs[j], List.getElem?_eq_getElem (by omega)⟩
  refine ⟨v, by rw [hk.cell j]; simpa using hv, ho j hj v hv, fun b hb => hx j v b hv hb, fun v' w1 x hown hgr hat => ?_⟩
  have hgv : some g ≠ v.ownBlock := fun h => hx j v g hv h.symm hg
  have hk1 : Blk w1 g t vs.toArray := (hgr.block g hk.lt hgv).trans hk
  have hb' : ∀ b, v'.ownBlock = some b → ¬ X b := fun b hb => by
    rcases hat with h | h
    · exact hx j v b hv (h ▸ hb)
    · rw [h] at hb; injection hb with hb; subst hb; intro hX; have := hlt _ hX; omega
  have hset : ∀ b, b ≠ g → (w1.setCell ⟨g, j, none⟩ v').heap[b]? = w1.heap[b]? := fun b hb => Below.heap_setCell w1 _ _ b hb
  refine ⟨hg, vs.set j v', by simp [hl], ?_, fun i hi u hu => ?_, fun i u b hu hb => ?_, fun i k u z b hik hu hz hb => ?_⟩
  · have := hk1.set_ j v'
    simpa using this
  · rw [List.length_set] at hi
    by_cases e : j = i
    · subst e
      rw [List.getElem?_set_self (by omega)] at hu
      injection hu with hu
      subst hu
      have := ownsRow_heap (w' := w1.setCell ⟨g, j, none⟩ v') hown fun b hb => hset b fun q => hb' b hb (q ▸ hg)
      simpa using this
    · rw [List.getElem?_set_ne e] at hu
      simp only [List.getElem_set_ne e]
      refine ownsRow_heap (ho i hi u hu) fun b hb => ?_
      rw [hset b fun q => hx i u b hu hb (q ▸ hg)]
      exact hgr.block b ((ho i hi u hu).lt b hb).2 fun q => hd i j u v b (fun q => e q.symm) hu hv hb q.symm
  · by_cases e : j = i
    · subst e
      rw [List.getElem?_set_self (by omega)] at hu
      injection hu with hu
      subst hu
      exact hb' b hb
    · rw [List.getElem?_set_ne e] at hu
      exact hx i u b hu hb
  · have hne : ∀ i' u' b', i' ≠ j → vs[i']? = some u' → u'.ownBlock = some b' → v'.ownBlock ≠ some b' := fun i' u' b' hi' hu' hb' q => by
      rcases hat with h | h
      · exact hd i' j u' v b' hi' hu' hv hb' (h ▸ q)
      · rw [h] at q
        injection q with q
        subst q
        have hi2 : i' < us.length := by
          rw [← hl]
          exact (List.getElem?_eq_some_iff.1 hu').1
        have := ((ho i' hi2 u' hu').lt _ hb').2
        omega
    by_cases e : j = i
    · subst e
      rw [List.getElem?_set_self (by omega)] at hu
      injection hu with hu
      subst hu
      rw [List.getElem?_set_ne hik] at hz
      intro q
      exact hne k z b (fun q => hik q.symm) hz q hb
    · rw [List.getElem?_set_ne e] at hu
      by_cases e2 : j = k
      · subst e2
        rw [List.getElem?_set_self (by omega)] at hz
        injection hz with hz
        subst hz
        exact hne i u b (fun q => e q.symm) hu hb
      · rw [List.getElem?_set_ne e2] at hz
        exact hd i k u z b hik hu hz hb
end
end Go.Proofs.Ytnofeebcmmmlhaa
/- The plain part of Kahn's order, as rows of numbers. No program is named here. -/
namespace Go.Proofs.Ytnofeebcmmmlhaa
namespace Kn
def wl (I : Int → List Int) (n k : Nat) (l : List Int) : List Int := (List.range (n + 1)).map fun u : Nat => ((wMid I k l (u : Int) : Nat) : Int)
def ul (I : Int → List Int) (n k : Nat) (l : List Int) : List (List Int) := (List.range (n + 1)).map fun u : Nat => uMid I k l (u : Int)
theorem wl_len (I : Int → List Int) (n k : Nat) (l : List Int) : (wl I n k l).length = n + 1 := by simp [wl]
theorem ul_len (I : Int → List Int) (n k : Nat) (l : List Int) : (ul I n k l).length = n + 1 := by simp [ul]
theorem wl_at (I : Int → List Int) (n k : Nat) (l : List Int) {u : Nat} (h : u < n + 1) : (wl I n k l)[u]? = some ((wMid I k l (u : Int) : Nat) : Int) := by simp [wl, h]
theorem ul_at (I : Int → List Int) (n k : Nat) (l : List Int) {u : Nat} (h : u < (ul I n k l).length) : (ul I n k l)[u] = uMid I k l (u : Int) := by simp [ul]
theorem wl_zero (I : Int → List Int) (n : Nat) : wl I n 0 [] = List.replicate (n + 1) 0 := by
  unfold wl
  rw [wMid_zero, List.eq_replicate_iff]
  exact ⟨by simp, fun b hb => by obtain ⟨x, _, rfl⟩ := List.mem_map.1 hb; rfl⟩
theorem ul_zero (I : Int → List Int) (n : Nat) : ul I n 0 [] = List.replicate (n + 1) [] := by
  unfold ul
  rw [uMid_zero, List.eq_replicate_iff]
  exact ⟨by simp, fun b hb => by obtain ⟨x, _, rfl⟩ := List.mem_map.1 hb; rfl⟩
theorem wl_next (I : Int → List Int) (n k : Nat) : wl I n k (I ((k : Int) + 1)) = wl I n (k + 1) [] := by unfold wl; rw [wMid_next]
theorem ul_next (I : Int → List Int) (n k : Nat) : ul I n k (I ((k : Int) + 1)) = ul I n (k + 1) [] := by unfold ul; rw [uMid_next]
theorem wl_skip (I : Int → List Int) (n k : Nat) (l : List Int) : wl I n k (l ++ [0]) = wl I n k l := by unfold wl; rw [wMid_zero_in]
theorem ul_skip (I : Int → List Int) (n k : Nat) (l : List Int) : ul I n k (l ++ [0]) = ul I n k l := by unfold ul; rw [uMid_zero_in]
theorem wl_in (I : Int → List Int) (n k : Nat) (l : List Int) {id : Int} (h : id ≠ 0) : wl I n k (l ++ [id]) = (wl I n k l).set (k + 1) (((wMid I k l ((k : Int) + 1) : Nat) : Int) + 1) := by
  apply List.ext_getElem?
  intro j
  rw [List.getElem?_set]
  by_cases hj : j < n + 1
  · rw [wl_at _ _ _ _ hj, wl_at _ _ _ _ hj, wMid_in h, wl_len]
    by_cases e : k + 1 = j
    · subst e
      simp [hj]
    · have : ((j : Nat) : Int) ≠ (k : Int) + 1 := by omega
      simp [e, this]
  · rw [List.getElem?_eq_none (by rw [wl_len]; omega), List.getElem?_eq_none (by rw [wl_len]; omega), wl_len]
    simp
    omega
theorem ul_in (I : Int → List Int) (n k : Nat) (l : List Int) {id : Int} (h : id ≠ 0) (h0 : 0 ≤ id) : ul I n k (l ++ [id]) = (ul I n k l).set id.toNat (uMid I k l id ++ [(k : Int) + 1]) := by
  apply List.ext_getElem?
  intro j
  rw [List.getElem?_set]
  unfold ul
  simp only [List.getElem?_map, List.length_map, List.length_range]
  by_cases hj : j < n + 1
  · rw [List.getElem?_range hj]
    simp only [Option.map_some]
    rw [uMid_in h]
    by_cases e : id.toNat = j
    · subst e
      have : ((id.toNat : Nat) : Int) = id := by omega
      simp [hj, this]
    · have : ((j : Nat) : Int) ≠ id := by omega
      simp [e, this]
  · rw [List.getElem?_eq_none (by simp; omega)]
    simp
    omega
theorem wMid_le {I : Int → List Int} {B : Nat} (hI : ∀ u, (I u).length ≤ B) (k : Nat) {l : List Int} (hl : l.length ≤ B) (u : Int) : wMid I k l u ≤ B := by
  unfold wMid
  split
  · rw [wt_nil]; exact Nat.le_trans (List.length_filter_le _ _) (hI u)
  · split
    · exact Nat.le_trans (List.length_filter_le _ _) hl
    · omega
theorem sum_le {B : Nat} : ∀ (l : List Nat), (∀ x ∈ l, x ≤ B) → l.sum ≤ l.length * B
  | [], _ => by simp
  | x :: r, h => by
    have h1 := h x (by simp)
    have h2 := sum_le r fun y hy => h y (by simp [hy])
    simp only [List.sum_cons, List.length_cons, Nat.succ_mul]
    omega
theorem uMid_le {I : Int → List Int} {B : Nat} (hI : ∀ u, (I u).length ≤ B) (k : Nat) {l : List Int} (hl : l.length ≤ B) (id : Int) : (uMid I k l id).length ≤ (k + 1) * B := by
  have h1 := uMid_len I k l id
  have h2 := sum_le ((ids k).map fun u => (I u).length) (B := B) fun x hx => by obtain ⟨u, _, rfl⟩ := List.mem_map.1 hx; exact hI u
  rw [List.length_map, ids_length] at h2
  rw [Nat.succ_mul]
  omega
/-- The ready ones of the first k, at the start. -/
def rk (I : Int → List Int) (k : Nat) : List Int := (ids k).filter fun u => wt I [] u == 0
theorem rk_succ (I : Int → List Int) (k : Nat) : rk I (k + 1) = if wt I [] ((k : Int) + 1) = 0 then rk I k ++ [(k : Int) + 1] else rk I k := by
  unfold rk
  rw [ids_succ, List.filter_append]
  by_cases h : wt I [] ((k : Int) + 1) = 0 <;> simp [h]
theorem rk_len (I : Int → List Int) (k : Nat) : (rk I k).length ≤ k := Nat.le_trans (List.length_filter_le _ _) (by rw [ids_length]; exact Nat.le_refl _)
theorem rk_all (I : Int → List Int) (n : Nat) : rk I n = ready I n [] := by
  unfold rk ready
  apply List.filter_congr
  intro u _
  rw [free_iff]
  simp
/-- How many ins are waited for, behind some users of the number that went out last. -/
def wm (I : Int → List Int) (n : Nat) (out a : List Int) : List Int := (List.range (n + 1)).map fun u : Nat => if u = 0 then 0 else ((mid I out a (u : Int) : Nat) : Int)
theorem wm_len (I : Int → List Int) (n : Nat) (out a : List Int) : (wm I n out a).length = n + 1 := by simp [wm]
theorem wm_at (I : Int → List Int) (n : Nat) (out a : List Int) {u : Nat} (h : u < n + 1) (h0 : u ≠ 0) : (wm I n out a)[u]? = some ((mid I out a (u : Int) : Nat) : Int) := by simp [wm, h, h0]
theorem wm_start (I : Int → List Int) (n : Nat) : wl I n n [] = wm I n [] [] := by
  unfold wl wm
  apply List.map_congr_left
  intro u hu
  have hu := List.mem_range.1 hu
  by_cases h : u = 0
  · subst h
    simp [wMid]
  · rw [wMid_end (by omega) (by omega)]
    simp [h, mid]
theorem wm_next {I : Int → List Int} {n : Nat} {out : List Int} {id : Int} (hid : id ∈ ready I n out) : wm I n out (users I n id) = wm I n (out ++ [id]) [] := by
  unfold wm
  apply List.map_congr_left
  intro u hu
  have hu := List.mem_range.1 hu
  by_cases h : u = 0
  · simp [h]
  · rw [mid_end hid (mem_ids.2 ⟨by omega, by omega⟩)]
    simp [h, mid]
theorem wm_in {I : Int → List Int} {n : Nat} {out a : List Int} {u : Int} (h0 : 1 ≤ u) : wm I n out (a ++ [u]) = (wm I n out a).set u.toNat ((mid I out (a ++ [u]) u : Nat) : Int) := by
  apply List.ext_getElem?
  intro j
  rw [List.getElem?_set, wm_len]
  by_cases hj : j < n + 1
  · by_cases e : u.toNat = j
    · subst e
      have : ((u.toNat : Nat) : Int) = u := by omega
      rw [wm_at _ _ _ _ hj (by omega), this]
      simp [hj]
    · simp only [e, if_false]
      unfold wm
      simp only [List.getElem?_map, List.getElem?_range hj, Option.map_some]
      rw [mid_other (by omega)]
  · rw [List.getElem?_eq_none (by rw [wm_len]; omega), List.getElem?_eq_none (by rw [wm_len]; omega)]
    simp
    omega
theorem count_lt {l : List Int} (h : l.Pairwise (· < ·)) (u : Int) : (∀ j (hj : j < l.length), j < l.countP (· < u) → l[j] < u) ∧ (∀ j (hj : j < l.length), l.countP (· < u) ≤ j → u ≤ l[j]) := by
  induction l with
  | nil => exact ⟨fun j hj => by simp at hj, fun j hj => by simp at hj⟩
  | cons x r ih =>
    obtain ⟨hx, hr⟩ := List.pairwise_cons.1 h
    obtain ⟨i1, i2⟩ := ih hr
    by_cases hxu : x < u
    · have hc : (x :: r).countP (· < u) = r.countP (· < u) + 1 := by rw [List.countP_cons]; simp [hxu]
      rw [hc]
      refine ⟨fun j hj hlt => ?_, fun j hj hle => ?_⟩
      · match j with
        | 0 => simpa using hxu
        | j + 1 => simpa using i1 j (by simpa using hj) (by omega)
      · match j with
        | 0 => omega
        | j + 1 => simpa using i2 j (by simpa using hj) (by omega)
    · have hz : r.countP (· < u) = 0 := by
        rw [List.countP_eq_zero]
        intro y hy
        have := hx y hy
        simp; omega
      have hc : (x :: r).countP (· < u) = 0 := by rw [List.countP_cons, hz]; simp; omega
      rw [hc]
      refine ⟨fun j hj hlt => by omega, fun j hj _ => ?_⟩
      match j with
      | 0 => simp; omega
      | j + 1 =>
        have := i2 j (by simpa using hj) (by omega)
        simpa using this
theorem midReady_sorted (I : Int → List Int) (n : Nat) (out : List Int) (id : Int) (us : List Int) : (midReady I n out id us).Pairwise (· < ·) := (ids_pairwise n).filter _
theorem midReady_len (I : Int → List Int) (n : Nat) (out : List Int) (id : Int) (us : List Int) : (midReady I n out id us).length ≤ n := Nat.le_trans (List.length_filter_le _ _) (by rw [ids_length]; exact Nat.le_refl _)
theorem ready_len (I : Int → List Int) (n : Nat) (out : List Int) : (ready I n out).length ≤ n := Nat.le_trans (List.length_filter_le _ _) (by rw [ids_length]; exact Nat.le_refl _)
theorem mid_put' {I : Int → List Int} {n : Nat} {out a b : List Int} {id u : Int} (hok : Ok I n out) (hid : id ∈ ready I n out) (hu : users I n id = a ++ u :: b) (h : mid I out (a ++ [u]) u = 0) :
    midReady I n out id (a ++ [u]) = (midReady I n out id a).take ((midReady I n out id a).countP (· < u)) ++ u :: (midReady I n out id a).drop ((midReady I n out id a).countP (· < u)) := by
  obtain ⟨h1, h2⟩ := count_lt (midReady_sorted I n out id a) u
  exact mid_put hok hid hu h h1 h2 List.countP_le_length
end Kn
end Go.Proofs.Ytnofeebcmmmlhaa
/- slices.Insert at []int: the library's contracts, at this program. -/
namespace Go.Proofs.Ytnofeebcmmmlhaa
open Go.Shelf
def insRen : Go.Shelf.Ren := ⟨fun | 21 => 49 | 27 => 59 | 28 => 60 | 35 => 70 | 39 => 75 | n => n, fun | 22 => 24 | 3 => 3 | 4 => 4 | 0 => 0 | n => n, fun | n => n⟩
theorem laysIns : Go.Proofs.Lays2.n21 Try.prog insRen := {
  mixed := by kernel_rfl
  f21 := Try.func49.trans (congrArg some (by kernel_rfl))
  f27 := Try.func59.trans (congrArg some (by kernel_rfl))
  f28 := Try.func60.trans (congrArg some (by kernel_rfl))
  f35 := Try.func70.trans (congrArg some (by kernel_rfl))
  f39 := Try.func75.trans (congrArg some (by kernel_rfl))
  t0 := Try.underlying0
  a0 := Try.isAgg0
  z0 := Try.sizeOf0
  v0 := Try.zeroValue0
  t3 := Try.underlying3
  a3 := Try.isAgg3
  z3 := Try.sizeOf3
  v3 := Try.zeroValue3
  t4 := Try.underlying4
  a4 := Try.isAgg4
  z4 := Try.sizeOf4
  v4 := Try.zeroValue4
  t22 := Try.underlying24
  a22 := Try.isAgg24
  z22 := Try.sizeOf24
  v22 := Try.zeroValue24
  i3 := by kernel_rfl }
end Go.Proofs.Ytnofeebcmmmlhaa
/-
  DERIVED: THE SHELF's CONTRACTS AT THIS DUMP, IN PLAIN WORDS (tools/lay-plain.mjs out of 'TryShelf.lean', which tools/lay-shelf.mjs wrote): THE SAME DECLARATIONS UNDER THE SAME NAMES: 'import', 'namespace', 'open', 'def', 'theorem' AND NOTHING ELSE: no command of the shelf's: FOR A HAND-IN. Each laying: the table of numbers ('.._ren') and one theorem, a field a fact of the dump's own or the kernel's comparison; each contract: ONE APPLICATION.
-/
namespace Go.Proofs
open Go.Shelf
def Try.lays215_ren : Go.Shelf.Ren := ⟨fun | 215 => 69 | n => n, fun | 3 => 3 | 4 => 4 | n => n, fun | n => n⟩
theorem Try.lays215 : Go.Proofs.Lays.n215 Try.prog Try.lays215_ren := {
  mixed := by kernel_rfl
  f215 := Try.func69.trans (congrArg some (by kernel_rfl))
  t3 := Try.underlying3
  a3 := Try.isAgg3
  z3 := Try.sizeOf3
  v3 := Try.zeroValue3
  t4 := Try.underlying4
  a4 := Try.isAgg4
  z4 := Try.sizeOf4
  v4 := Try.zeroValue4 }
open Go.RowKit in
/-- cmp.isNaN at int: 'x != x': false. (LAID: no walk: one application.) -/
theorem Try.cmp_isNaN_int (x : Int) (w : World) :
    Calls Try.prog 69 #[.int .i64 x] w fun e w' => e = .returned (.bool false) ∧ w' = w := Any.cmp_isNaN_int Try.lays215 x w
def Try.lays112_ren : Go.Shelf.Ren := ⟨fun | 112 => 75 | n => n, fun | 28 => 24 | 3 => 3 | 4 => 4 | 0 => 0 | n => n, fun | n => n⟩
theorem Try.lays112 : Go.Proofs.Lays.n112 Try.prog Try.lays112_ren := {
  mixed := by kernel_rfl
  f112 := Try.func75.trans (congrArg some (by kernel_rfl))
  t0 := Try.underlying0
  a0 := Try.isAgg0
  z0 := Try.sizeOf0
  v0 := Try.zeroValue0
  t3 := Try.underlying3
  a3 := Try.isAgg3
  z3 := Try.sizeOf3
  v3 := Try.zeroValue3
  t4 := Try.underlying4
  a4 := Try.isAgg4
  z4 := Try.sizeOf4
  v4 := Try.zeroValue4
  t28 := Try.underlying24
  a28 := Try.isAgg24
  z28 := Try.sizeOf24
  v28 := Try.zeroValue24 }
open Go.RowKit Go.Lib Go.Sort in
/-- slices.Reverse at []int, over an array: Go's loop from the two ends inward is walked; it makes 'Sort.reverseLoop 0 (len - 1)', which is 'Array.reverse' (Derived/Lib/SlicesMore.lean). (LAID: no walk: one application.) -/
theorem Try.slices_Reverse_int_arr (blk off cap : Nat) (d : Array Int) (w : World) (hH : Holds encI w blk off d) (hsz : d.size ≤ 9223372036854775807) :
    Calls Try.prog 75 #[.slice (some ⟨blk, off, none⟩) d.size cap] w fun e w' => e = .returned (.tuple #[]) ∧ ∃ n, w' = putRow encI (Sort.ahead w n) blk off d.reverse := Any.slices_Reverse_int_arr Try.lays112 blk off cap d w hH hsz
open Go.RowKit Go.Lib Go.Sort in
/-- slices.Reverse at []int: "Reverse reverses the elements of the slice in place.": THE SLICE's CELLS HOLD 'zs.reverse' BEHIND THE CALL; all else is as it was, but for the count of draws (the exchange 's[i], s[j] = s[j], s[i]' draws its order, once a round). IN THE WORDS OF slices.Sort's CONTRACT: 'Holds': the cells hold zs and none is frozen; 'putRow': the world with those cells holding another array. A slice of length 0 that is not nil is among them ('zs = []'); nil: '.._nil'. (LAID: no walk: one application.) -/
theorem Try.slices_Reverse_int (blk off cap : Nat) (zs : List Int) (w : World) (hH : Holds (Value.int .i64) w blk off zs.toArray) (hsz : zs.length ≤ 9223372036854775807) :
    Calls Try.prog 75 #[.slice (some ⟨blk, off, none⟩) zs.length cap] w fun e w' => e = .returned (.tuple #[]) ∧ ∃ n, w' = putRow (Value.int .i64) (Sort.ahead w n) blk off zs.reverse.toArray := Any.slices_Reverse_int Try.lays112 blk off cap zs w hH hsz
open Go.RowKit Go.Lib Go.Sort in
/-- The same at a slice of length 0, a nil one too: nothing is read, nothing written, nothing drawn. (LAID: no walk: one application.) -/
theorem Try.slices_Reverse_int_empty (a : Option Addr) (cap : Nat) (w : World) :
    Calls Try.prog 75 #[.slice a 0 cap] w fun e w' => e = .returned (.tuple #[]) ∧ w' = w := Any.slices_Reverse_int_empty Try.lays112 a cap w
def Try.lays111_ren : Go.Shelf.Ren := ⟨fun | 111 => 43 | n => n, fun | 28 => 24 | 3 => 3 | 4 => 4 | 0 => 0 | n => n, fun | n => n⟩
theorem Try.lays111 : Go.Proofs.Lays.n111 Try.prog Try.lays111_ren := {
  mixed := by kernel_rfl
  f111 := Try.func43.trans (congrArg some (by kernel_rfl))
  t0 := Try.underlying0
  a0 := Try.isAgg0
  z0 := Try.sizeOf0
  v0 := Try.zeroValue0
  t3 := Try.underlying3
  a3 := Try.isAgg3
  z3 := Try.sizeOf3
  v3 := Try.zeroValue3
  t4 := Try.underlying4
  a4 := Try.isAgg4
  z4 := Try.sizeOf4
  v4 := Try.zeroValue4
  t28 := Try.underlying24
  a28 := Try.isAgg24
  z28 := Try.sizeOf24
  v28 := Try.zeroValue24 }
open Go.RowKit Go.Lib in
/-- slices.Equal at []int: "Equal reports whether two slices are equal: the same length and all elements equal. If the lengths are different, Equal returns false. Otherwise, the elements are compared in increasing index order, and the comparison stops at the first unequal pair. Empty and nil slices are considered equal.": IT RETURNS WHETHER THE TWO LISTS OF ELEMENTS ARE ONE; the world is as it was but for the count of draws (the test 's1[i] != s2[i]' has two reads, whose order the model draws, once a round). 'xs', 'ys': what the cells behind the two addresses hold (the spare capacity too, if you have it); 'xs.take n', 'ys.take m': the elements. THE TWO SLICES MAY OVERLAP. (LAID: no walk: one application.) -/
theorem Try.slices_Equal_int (b1 o1 n c b2 o2 m d : Nat) (xs ys : List Int) (w : World) (hx : n ≤ xs.length) (hy : m ≤ ys.length) (hbig : n ≤ 9223372036854775807) (hbig2 : m ≤ 9223372036854775807) (hc1 : ∀ j, j < xs.length → w.cell? ⟨b1, o1 + j, none⟩ = some (.int .i64 (xs.getD j 0))) (hc2 : ∀ j, j < ys.length → w.cell? ⟨b2, o2 + j, none⟩ = some (.int .i64 (ys.getD j 0))) :
    Calls Try.prog 43 #[.slice (some ⟨b1, o1, none⟩) n c, .slice (some ⟨b2, o2, none⟩) m d] w fun e w' => e = .returned (.bool (xs.take n == ys.take m)) ∧ ∃ q, w' = w.drewN q := Any.slices_Equal_int Try.lays111 b1 o1 n c b2 o2 m d xs ys w hx hy hbig hbig2 hc1 hc2
open Go.RowKit Go.Lib in
/-- The same where the first is of length 0 (a nil one too): no cell is asked for. (LAID: no walk: one application.) -/
theorem Try.slices_Equal_int_empty (a1 a2 : Option Addr) (c m d : Nat) (w : World) (hbig2 : m ≤ 9223372036854775807) :
    Calls Try.prog 43 #[.slice a1 0 c, .slice a2 m d] w fun e w' => e = .returned (.bool (decide (m = 0))) ∧ w' = w := Any.slices_Equal_int_empty Try.lays111 a1 a2 c m d w hbig2
def Try.laysNm237_ren : Go.Shelf.Ren := ⟨fun | 37 => 69 | n => n, fun | 3 => 3 | 4 => 4 | n => n, fun | n => n⟩
theorem Try.laysNm237 : Go.Proofs.Lays2.n37 Try.prog Try.laysNm237_ren := {
  mixed := by kernel_rfl
  f37 := Try.func69.trans (congrArg some (by kernel_rfl))
  t3 := Try.underlying3
  a3 := Try.isAgg3
  z3 := Try.sizeOf3
  v3 := Try.zeroValue3
  t4 := Try.underlying4
  a4 := Try.isAgg4
  z4 := Try.sizeOf4
  v4 := Try.zeroValue4 }
open Go.RowKit Go.Lib in
/-- cmp.isNaN[int]: 'x != x': false. (LAID: no walk: one application.) -/
theorem Try.cmp_isNaN_int2 (x : Int) (w : World) :
    Calls Try.prog 69 #[.int .i64 x] w fun e w' => e = .returned (.bool false) ∧ w' = w := Any.cmp_isNaN_int2 Try.laysNm237 x w
def Try.laysNm232_ren : Go.Shelf.Ren := ⟨fun | 32 => 58 | n => n, fun | 3 => 3 | 4 => 4 | n => n, fun | n => n⟩
theorem Try.laysNm232 : Go.Proofs.Lays2.n32 Try.prog Try.laysNm232_ren := {
  mixed := by kernel_rfl
  f32 := Try.func58.trans (congrArg some (by kernel_rfl))
  t3 := Try.underlying3
  a3 := Try.isAgg3
  z3 := Try.sizeOf3
  v3 := Try.zeroValue3
  t4 := Try.underlying4
  a4 := Try.isAgg4
  z4 := Try.sizeOf4
  v4 := Try.zeroValue4 }
open Go.RowKit Go.Lib in
/-- slices.isNaN[int]: 'x != x': false. (LAID: no walk: one application.) -/
theorem Try.slices_isNaN_int2 (x : Int) (w : World) :
    Calls Try.prog 58 #[.int .i64 x] w fun e w' => e = .returned (.bool false) ∧ w' = w := Any.slices_isNaN_int2 Try.laysNm232 x w
def Try.laysNm231_ren : Go.Shelf.Ren := ⟨fun | 31 => 57 | 37 => 69 | n => n, fun | 3 => 3 | 4 => 4 | n => n, fun | n => n⟩
theorem Try.laysNm231 : Go.Proofs.Lays2.n31 Try.prog Try.laysNm231_ren := {
  mixed := by kernel_rfl
  f31 := Try.func57.trans (congrArg some (by kernel_rfl))
  f37 := Try.func69.trans (congrArg some (by kernel_rfl))
  t3 := Try.underlying3
  a3 := Try.isAgg3
  z3 := Try.sizeOf3
  v3 := Try.zeroValue3
  t4 := Try.underlying4
  a4 := Try.isAgg4
  z4 := Try.sizeOf4
  v4 := Try.zeroValue4 }
open Go.RowKit Go.Lib in
/-- cmp.Less[int]: "Less reports whether x is less than y.": 'x < y'; the world is as it was. (LAID: no walk: one application.) -/
theorem Try.cmp_Less_int2 (x y : Int) (w : World) :
    Calls Try.prog 57 #[.int .i64 x, .int .i64 y] w fun e w' => e = .returned (.bool (decide (x < y))) ∧ w' = w := Any.cmp_Less_int2 Try.laysNm231 x y w
def Try.laysNm225_ren : Go.Shelf.Ren := ⟨fun | 25 => 48 | 31 => 57 | 32 => 58 | 37 => 69 | n => n, fun | 22 => 24 | 3 => 3 | 4 => 4 | 40 => 78 | 0 => 0 | n => n, fun | n => n⟩
theorem Try.laysNm225 : Go.Proofs.Lays2.n25 Try.prog Try.laysNm225_ren := {
  mixed := by kernel_rfl
  f25 := Try.func48.trans (congrArg some (by kernel_rfl))
  f31 := Try.func57.trans (congrArg some (by kernel_rfl))
  f32 := Try.func58.trans (congrArg some (by kernel_rfl))
  f37 := Try.func69.trans (congrArg some (by kernel_rfl))
  t0 := Try.underlying0
  a0 := Try.isAgg0
  z0 := Try.sizeOf0
  v0 := Try.zeroValue0
  t3 := Try.underlying3
  a3 := Try.isAgg3
  z3 := Try.sizeOf3
  v3 := Try.zeroValue3
  t4 := Try.underlying4
  a4 := Try.isAgg4
  z4 := Try.sizeOf4
  v4 := Try.zeroValue4
  t22 := Try.underlying24
  a22 := Try.isAgg24
  z22 := Try.sizeOf24
  v22 := Try.zeroValue24
  t40 := Try.underlying78
  a40 := Try.isAgg78
  z40 := Try.sizeOf78
  v40 := Try.zeroValue78 }
open Go.RowKit Go.Lib in
/-- slices.BinarySearch at []int: "BinarySearch searches for target in a sorted slice and returns the earliest position where target is found, or the position where target would appear in the sort order; it also returns a bool saying whether the target is really found in the slice. The slice must be sorted in increasing order.": OF A SORTED SLICE IT RETURNS how many elements are less than the target, and whether the target is among the elements; the world is as it was but for the count of draws. 'zs': what the cells behind the slice's address hold; 'zs.take n': its elements. (Of a slice that is not sorted: no contract here.) (LAID: no walk: one application.) -/
theorem Try.slices_BinarySearch_int (b off n c : Nat) (zs : List Int) (x : Int) (w : World) (hz : n ≤ zs.length) (hbig : n < 4611686018427387904) (hc : ∀ j, j < zs.length → w.cell? ⟨b, off + j, none⟩ = some (.int .i64 (zs.getD j 0))) (hs : (zs.take n).Pairwise (· ≤ ·)) :
    Calls Try.prog 48 #[.slice (some ⟨b, off, none⟩) n c, .int .i64 x] w fun e w' => e = .returned (.tuple #[.int .i64 ((zs.take n).countP (· < x) : Nat), .bool ((zs.take n).contains x)]) ∧ ∃ q, w' = w.drewN q := Any.slices_BinarySearch_int Try.laysNm225 b off n c zs x w hz hbig hc hs
def Try.laysNm223_ren : Go.Shelf.Ren := ⟨fun | 23 => 47 | n => n, fun | 22 => 24 | 3 => 3 | 4 => 4 | 0 => 0 | n => n, fun | n => n⟩
theorem Try.laysNm223 : Go.Proofs.Lays2.n23 Try.prog Try.laysNm223_ren := {
  mixed := by kernel_rfl
  f23 := Try.func47.trans (congrArg some (by kernel_rfl))
  t0 := Try.underlying0
  a0 := Try.isAgg0
  z0 := Try.sizeOf0
  v0 := Try.zeroValue0
  t3 := Try.underlying3
  a3 := Try.isAgg3
  z3 := Try.sizeOf3
  v3 := Try.zeroValue3
  t4 := Try.underlying4
  a4 := Try.isAgg4
  z4 := Try.sizeOf4
  v4 := Try.zeroValue4
  t22 := Try.underlying24
  a22 := Try.isAgg24
  z22 := Try.sizeOf24
  v22 := Try.zeroValue24
  i3 := by kernel_rfl }
open Go.RowKit Go.Lib Go.Sort in
/-- slices.Delete at []int, over an array. (LAID: no walk: one application.) -/
theorem Try.slices_Delete_int_arr (blk off cap i j : Nat) (d : Array Int) (w : World) (hH : Holds encI w blk off d) (hcap : d.size ≤ cap) (hm : cap ≤ 9223372036854775807) (hij : i ≤ j) (hj : j ≤ d.size) :
    Calls Try.prog 47 #[.slice (some ⟨blk, off, none⟩) d.size cap, .int .i64 i, .int .i64 j] w fun e w' => e = .returned (.slice (some ⟨blk, off, none⟩) (d.size - (j - i)) cap) ∧ ∃ q, w' = putRow encI (Sort.ahead w q) blk off (d.toList.take i ++ d.toList.drop j ++ List.replicate (j - i) 0).toArray := Any.slices_Delete_int_arr Try.laysNm223 blk off cap i j d w hH hcap hm hij hj
open Go.RowKit Go.Lib Go.Sort in
/-- slices.Delete at []int: "Delete modifies s in place by removing the elements s[i:j], and returns the modified slice. Delete panics if j > len(s) or s[i:j] is not a valid slice of s. Delete is O(len(s)-i), so if many items must be deleted, it is better to_ make a single call deleting them all together than to_ delete one at a time. Delete zeroes the elements s[len(s)-(j-i):len(s)]. If the result is empty, it has the same nilness as s.": FOR i ≤ j ≤ len(s) IT RETURNS THE SLICE CUT TO len(s) - (j - i) ELEMENTS; ITS CELLS HOLD what stood ahead of i, what stood from j on, then j - i zero values; all else is as it was, but for the count of draws. IN THE WORDS OF slices.Sort's CONTRACT ('Holds', 'putRow'). It asks 'zs.length ≤ cap ≤ 2^63 - 1' (every slice's). (Outside i ≤ j ≤ len(s) it panics: no contract here.) (LAID: no walk: one application.) -/
theorem Try.slices_Delete_int (blk off cap i j : Nat) (zs : List Int) (w : World) (hH : Holds (Value.int .i64) w blk off zs.toArray) (hcap : zs.length ≤ cap) (hm : cap ≤ 9223372036854775807) (hij : i ≤ j) (hj : j ≤ zs.length) :
    Calls Try.prog 47 #[.slice (some ⟨blk, off, none⟩) zs.length cap, .int .i64 i, .int .i64 j] w fun e w' => e = .returned (.slice (some ⟨blk, off, none⟩) (zs.length - (j - i)) cap) ∧ ∃ q, w' = putRow (Value.int .i64) (Sort.ahead w q) blk off (zs.take i ++ zs.drop j ++ List.replicate (j - i) 0).toArray := Any.slices_Delete_int Try.laysNm223 blk off cap i j zs w hH hcap hm hij hj
open Go.RowKit Go.Lib Go.Sort in
/-- slices.Reverse at []int, of an argument: the n cells hold the elements in reverse. (LAID: no walk: one application.) -/
theorem Try.slices_Reverse_int_cells (b off n c : Nat) (zs : List Int) (w : World) (hz : n ≤ zs.length) (hbig : n ≤ 9223372036854775807) (hc : ∀ j, j < zs.length → w.cell? ⟨b, off + j, none⟩ = some (.int .i64 (zs.getD j 0))) (hf : ∀ j, j < n → w.frozen? ⟨b, off + j, none⟩ = false) :
    Calls Try.prog 75 #[.slice (some ⟨b, off, none⟩) n c] w fun e w' => e = .returned (.tuple #[]) ∧ ∃ q, w' = (w.drewN q).setCells b off ((zs.take n).reverse.map (Value.int .i64)) := Any.slices_Reverse_int_cells Try.lays112 b off n c zs w hz hbig hc hf
open Go.RowKit Go.Lib Go.Sort in
/-- slices.Delete at []int, of an argument, for i ≤ j ≤ n: the slice cut to_ n - (j - i) elements; the n cells hold what stood ahead of i, what stood from j on, then zeros. (LAID: no walk: one application.) -/
theorem Try.slices_Delete_int_cells (b off n c i j : Nat) (zs : List Int) (w : World) (hz : n ≤ zs.length) (hcap : n ≤ c) (hm : c ≤ 9223372036854775807) (hij : i ≤ j) (hj : j ≤ n) (hc : ∀ j, j < zs.length → w.cell? ⟨b, off + j, none⟩ = some (.int .i64 (zs.getD j 0))) (hf : ∀ j, j < n → w.frozen? ⟨b, off + j, none⟩ = false) :
    Calls Try.prog 47 #[.slice (some ⟨b, off, none⟩) n c, .int .i64 i, .int .i64 j] w fun e w' => e = .returned (.slice (some ⟨b, off, none⟩) (n - (j - i)) c) ∧ ∃ q, w' = (w.drewN q).setCells b off (((zs.take n).take i ++ (zs.take n).drop j ++ List.replicate (j - i) 0).map (Value.int .i64)) := Any.slices_Delete_int_cells Try.laysNm223 b off n c i j zs w hz hcap hm hij hj hc hf
open Go.RowKit Go.Lib in
/-- slices.BinarySearch at []int of no element: position 0, not found; the world is as it was. (LAID: no walk: one application.) -/
theorem Try.slices_BinarySearch_int_empty (a : Option Addr) (c : Nat) (x : Int) (w : World) :
    Calls Try.prog 48 #[.slice a 0 c, .int .i64 x] w fun e w' => e = .returned (.tuple #[.int .i64 0, .bool false]) ∧ w' = w := Any.slices_BinarySearch_int_empty Try.laysNm225 a c x w
open Go.RowKit Go.Lib in
/-- slices.Delete at []int of no element ('Delete(s, 0, 0)'): s comes back; the world is as it was. (LAID: no walk: one application.) -/
theorem Try.slices_Delete_int_empty (a : Option Addr) (c : Nat) (w : World) :
    Calls Try.prog 47 #[.slice a 0 c, .int .i64 0, .int .i64 0] w fun e w' => e = .returned (.slice a 0 c) ∧ w' = w := Any.slices_Delete_int_empty Try.laysNm223 a c w
open Go.RowKit Go.Lib in
theorem Try.slices_Equal_int_lens (a1 a2 : Option Addr) (n c m d : Nat) (w : World) (hnm : n ≠ m) :
    Calls Try.prog 43 #[.slice a1 n c, .slice a2 m d] w fun e w' => e = .returned (.bool false) ∧ w' = w := Any.slices_Equal_int_lens Try.lays111 a1 a2 n c m d w hnm
end Go.Proofs
/- slices.Insert, Delete and BinarySearch on rows of the call's own. -/
namespace Go.Proofs.Ytnofeebcmmmlhaa
open Go.RowKit

theorem splice_cons {L : List Value} {o : Nat} {v : Value} {r : List Value} (h : o + (v :: r).length ≤ L.length) : splice (L.set o v) (o + 1) r = splice L o (v :: r) := by
  simp only [List.length_cons] at h
  unfold splice
  have e1 : (L.set o v).take (o + 1) = L.take o ++ [v] := by
    rw [List.take_succ_eq_append_getElem (by simp; omega), List.take_set_of_le (Nat.le_refl _)]
    simp
  rw [e1, List.drop_set_of_lt (by omega)]
  simp [Nat.add_assoc, Nat.add_comm 1]
theorem setCells_blk {g : Nat} {t : TypeId} : ∀ (vs : List Value) (o : Nat) (w : World) (L : List Value), Blk w g t L.toArray → o + vs.length ≤ L.length → Blk (w.setCells g o vs) g t (splice L o vs).toArray
  | [], o, w, L, h, _ => by rw [splice_zero]; exact h
  | v :: r, o, w, L, h, hl => by
    rw [← splice_cons hl]
    refine setCells_blk r (o + 1) _ _ ?_ (by simp at hl ⊢; omega)
    have := h.set_ o v
    simpa using this
theorem setCells_fr {S : Nat → Prop} {g : Nat} (hg : S g) : ∀ (vs : List Value) (o : Nat) (w0 w : World), Fr S w0 w → Fr S w0 (w.setCells g o vs)
  | [], _, _, _, h => h
  | v :: r, o, w0, w, h => setCells_fr hg r (o + 1) w0 _ (h.setCell (fun _ => hg) v)
theorem fr_new {S : Nat → Prop} {w w1 : World} (h : Fr S w w1) : ∀ (vs : List Value) (o : Nat), Fr S w (w1.setCells w.heap.size o vs)
  | [], _ => h
  | v :: r, o => fr_new (h.setCell (p := ⟨w.heap.size, o, none⟩) (fun q => absurd q (Nat.lt_irrefl _)) v) r (o + 1)
theorem Blk.shape {w : World} {g : Nat} {t : TypeId} {cs : Array Value} (h : Blk w g t cs) : w.shape? g = some (t, cs.size) := by
  unfold Blk at h
  simp [World.shape?, h]
theorem Blk.own {w : World} {B g n : Nat} {t : TypeId} {L : List Value} {xs : List Value} (h : Blk w g t L.toArray) (hB : B ≤ g) (hn : xs.length = n) (hl : n ≤ L.length) (hm : L.length ≤ maxLen) (ht : L.take n = xs) {c : Nat} (hc : c = L.length) :
    w.ownsRow B t 1 (.slice (some ⟨g, 0, none⟩) n c) n xs := by
  subst hc
  exact ⟨by omega, .inr ⟨g, _, _, rfl, hB, h, hl, hm, by simp, by simpa using ht⟩⟩
/-- What a change of an own row leaves. -/
def OwnPost (B : Nat) (t : TypeId) (v : Value) (zs : List Int) (w : World) (e : Ending) (w' : World) : Prop :=
  ∃ v', e = .returned v' ∧ w'.ownsRow B t 1 v' zs.length (zs.map (Value.int .i64)) ∧ Fr (fun b => v.ownBlock = some b) w w' ∧ (v'.ownBlock = v.ownBlock ∨ v'.ownBlock = some w.heap.size)

theorem spl_mid (A X Y B : List Value) (h : X.length = Y.length) : splice (A ++ (X ++ B)) A.length Y = A ++ (Y ++ B) := by
  unfold splice
  rw [List.take_append_of_le_length (Nat.le_refl _), List.take_length, ← h, ← List.length_append, ← List.append_assoc A X B, List.drop_left]
theorem ins_a {Z D : List Value} {x : Value} {i : Nat} (hi : i < Z.length) (hD : 1 ≤ D.length) : splice (splice (Z ++ D) (i + 1) (Z.drop i)) i [x] = Z.take i ++ x :: Z.drop i ++ D.drop 1 := by
  obtain ⟨d, D', rfl⟩ : ∃ d D', D = d :: D' := by cases D with | nil => simp at hD | cons d D' => exact ⟨d, D', rfl⟩
  obtain ⟨A, b, B, rfl, rfl⟩ : ∃ A b B, Z = A ++ b :: B ∧ i = A.length := ⟨Z.take i, Z[i], Z.drop (i + 1), by rw [← List.drop_eq_getElem_cons hi, List.take_append_drop], by simp; omega⟩
  rw [List.drop_left, List.take_left]
  have e1 : A ++ b :: B ++ d :: D' = (A ++ [b]) ++ ((B ++ [d]) ++ D') := by simp
  have e2 : A.length + 1 = (A ++ [b]).length := by simp
  rw [e1, e2, spl_mid _ _ (b :: B) _ (by simp)]
  have e3 : A ++ [b] ++ (b :: B ++ D') = A ++ ([b] ++ (b :: B ++ D')) := by simp
  rw [e3, spl_mid _ [b] [x] _ rfl]
  simp
theorem ins_b {Z Z1 Z2 : List Value} {x : Value} {i : Nat} (hi : i < Z.length) (h1 : Z1.length = Z.length + 1 - i) : splice (splice (Z.take i ++ Z1 ++ Z2) i [x]) (i + 1) (Z.drop i) = Z.take i ++ x :: Z.drop i ++ Z2 := by
  obtain ⟨d, D, rfl⟩ : ∃ d D, Z1 = d :: D := by cases Z1 with | nil => simp at h1; omega | cons d D => exact ⟨d, D, rfl⟩
  obtain ⟨A, B, rfl, rfl⟩ : ∃ A B, Z = A ++ B ∧ i = A.length := ⟨Z.take i, Z.drop i, (List.take_append_drop _ _).symm, by simp; omega⟩
  rw [List.drop_left, List.take_left]
  have e1 : A ++ d :: D ++ Z2 = A ++ ([d] ++ (D ++ Z2)) := by simp
  rw [e1, spl_mid _ [d] [x] _ rfl]
  have e2 : A ++ ([x] ++ (D ++ Z2)) = (A ++ [x]) ++ (D ++ Z2) := by simp
  have e3 : A.length + 1 = (A ++ [x]).length := by simp
  rw [e2, e3, spl_mid _ _ B _ (by simp at h1; omega)]
  simp
theorem ins_list {zs : List Int} {x : Int} {i : Nat} (h : i ≤ zs.length) : (zs.take i ++ x :: zs.drop i).length = zs.length + 1 := by simp; omega

theorem Blk.cells_map {w : World} {g : Nat} {t : TypeId} {L xs : List Value} {n : Nat} (h : Blk w g t L.toArray) (ht : L.take n = xs) : ∀ j v, xs[j]? = some v → w.cell? ⟨g, 0 + j, none⟩ = some v := fun j v hj => by
  rw [Nat.zero_add, h.cell j]
  subst ht
  rw [List.getElem?_take] at hj
  split at hj
  · simpa using hj
  · cases hj
theorem one_cell' {zs : List Int} : ∀ v ∈ zs.map (Value.int .i64), v.oneCell' = true := fun v hv => by
  obtain ⟨x, _, rfl⟩ := List.mem_map.1 hv
  rfl

theorem insert_own (B : Nat) (v : Value) (zs : List Int) (x : Int) (i vb : Nat) (w : World) (hi : i ≤ zs.length) (hn : zs.length ≤ 1099511627776) (hB : B ≤ w.heap.size) (hown : w.ownsRow B 3 1 v zs.length (zs.map (Value.int .i64))) (hv : Blk w vb 3 #[.int .i64 x]) (hvb : v.ownBlock ≠ some vb) :
    Calls Try.prog 49 #[v, .int .i64 i, .slice (some ⟨vb, 0, none⟩) 1 1] w (OwnPost B 3 v (zs.take i ++ x :: zs.drop i) w) := by
  have hvc : ∀ j u, [Value.int .i64 x][j]? = some u → w.cell? ⟨vb, 0 + j, none⟩ = some u := fun j u hj => by
    match j, hj with
    | 0, hj => simp at hj; subst hj; rw [hv.cell]; rfl
  have h1v : ∀ u ∈ [Value.int .i64 x], u.oneCell' = true := fun u hu => by simp at hu; subst hu; rfl
  have hmax : maxLen = 9223372036854775807 := rfl
  rcases hown.2 with ⟨rfl, h0⟩ | ⟨g, cap, cur, rfl, hBg, hh, hnc, hcm, hsz, htk⟩
  · have hz : zs = [] := List.eq_nil_of_length_eq_zero h0
    subst hz
    obtain rfl : i = 0 := by simpa using hi
    refine (Any2.slices_Insert_int_end_grow laysIns none 0 0 vb 0 1 1 [] [.int .i64 x] w (by omega) (by omega) (by omega) (by omega) rfl rfl (fun _ => rfl) (fun a h => by cases h) hvc h1v).mono ?_
    rintro e w' ⟨rfl, rfl⟩
    have hg := grownCap_ge w (0 + 1) 0 3
    have hgm := grownCap_le_maxLen w (0 + 1) 0 3 (by unfold maxLen; omega)
    refine ⟨_, rfl, ?_, ((Fr.refl _ w).drew).alloc _, .inr rfl⟩
    have hk := Blk.new w.drew 3 (([] ++ [Value.int .i64 x]).toArray ++ Builtin.zeroCells (Value.int .i64 0).cells (grownCap w (0 + 1) 0 3 - (0 + 1)))
    have hk2 : Blk (w.drew.alloc (.cells (([] ++ [Value.int .i64 x]).toArray ++ Builtin.zeroCells (Value.int .i64 0).cells (grownCap w (0 + 1) 0 3 - (0 + 1))) 3)) w.heap.size 3 (([Value.int .i64 x] ++ (Builtin.zeroCells (Value.int .i64 0).cells (grownCap w (0 + 1) 0 3 - (0 + 1))).toList).toArray) := by
      have e : (([Value.int .i64 x] ++ (Builtin.zeroCells (Value.int .i64 0).cells (grownCap w (0 + 1) 0 3 - (0 + 1))).toList).toArray) = ([] ++ [Value.int .i64 x]).toArray ++ Builtin.zeroCells (Value.int .i64 0).cells (grownCap w (0 + 1) 0 3 - (0 + 1)) := by
        apply Array.ext'
        simp
      rw [e]
      exact hk
    have hzl : (Builtin.zeroCells (Value.int .i64 0).cells (grownCap w (0 + 1) 0 3 - (0 + 1))).toList.length = grownCap w (0 + 1) 0 3 - (0 + 1) := by
      rw [Array.length_toList, size_zeroCells]; simp [Value.cells]
    exact hk2.own hB rfl (by simp) (by simp only [List.length_append, hzl, List.length_singleton]; omega) (by simp) (by simp only [List.length_append, hzl, List.length_singleton]; show grownCap w (0 + 1) 0 3 = _; omega)
  · have hk : Blk w g 3 cur.toList.toArray := by simpa [Blk] using hh
    have hcl : cur.toList.length = cap := by simpa using hsz
    have htk' : cur.toList.take zs.length = zs.map (Value.int .i64) := by simpa using htk
    have hcs := hk.cells_map htk'
    have hgv : g ≠ vb := fun h => hvb (by rw [h]; rfl)
    have hml : (zs.map (Value.int .i64)).length = zs.length := by simp
    by_cases hroom : zs.length + 1 ≤ cap
    · by_cases hlt : i < zs.length
      · refine (Any2.slices_Insert_int_shift laysIns g 0 zs.length cap i vb 0 1 1 (zs.map (Value.int .i64)) [.int .i64 x] w hlt (by omega) hroom (by omega) (fun h => hgv h.symm) hml rfl hcs ?_ ?_ hvc one_cell' h1v 3 3 1 cap ?_ ?_ (by omega) ?_ ?_).mono ?_
        · intro j hj; rw [Nat.zero_add, hk.cell]; simp; omega
        · intro j hj; exact hk.frozen _
        · exact hv.shape
        · rw [hk.shape]; simp [hsz]
        · exact hv.frozen _
        · exact hv.frozen _
        · rintro e w' ⟨rfl, rfl⟩
          have hd : (List.drop i (zs.map (Value.int .i64))).length = zs.length - i := by simp
          have k1 := setCells_blk ((zs.map (Value.int .i64)).drop i) (0 + (i + 1)) w.drew _ hk.drew (by rw [hd, hcl]; omega)
          have k2 := setCells_blk [Value.int .i64 x] (0 + i) _ _ k1 (by simp [splice]; omega)
          refine ⟨_, rfl, ?_, setCells_fr (by rfl) _ _ _ _ (setCells_fr (by rfl) _ _ _ _ (Fr.refl _ w).drew), .inl rfl⟩
          have hlen : (splice (splice cur.toList (0 + (i + 1)) ((zs.map (Value.int .i64)).drop i)) (0 + i) [Value.int .i64 x]).length = cap := by
            simp only [splice, List.length_append, List.length_take, List.length_drop, List.length_singleton, hd, hcl]; omega
          rw [ins_list hi]
          refine k2.own hBg (by simp; omega) (by rw [hlen]; omega) (by rw [hlen]; exact hcm) ?_ hlen.symm
          rw [Nat.zero_add, Nat.zero_add]
          have e0 : cur.toList = zs.map (Value.int .i64) ++ cur.toList.drop zs.length := by rw [← htk']; exact (List.take_append_drop _ _).symm
          rw [e0]
          generalize cur.toList.drop zs.length = D at *
          generalize hZ : zs.map (Value.int .i64) = Z at *
          have hZi : i < Z.length := by omega
          have hDl : 1 ≤ D.length := by rw [e0, List.length_append] at hcl; omega
          rw [ins_a hZi hDl]
          have : (Z.take i ++ Value.int .i64 x :: Z.drop i).length = zs.length + 1 := by simp; omega
          rw [List.take_append_of_le_length (by omega), List.take_of_length_le (by omega)]
          rw [← hZ]
          simp [List.map_take, List.map_drop]
      · obtain rfl : i = zs.length := by omega
        refine (Any2.slices_Insert_int_end_room laysIns g 0 zs.length cap vb 0 1 1 [.int .i64 x] w (by omega) hroom (by omega) rfl ?_ ?_ hvc h1v).mono ?_
        · intro j hj; rw [Nat.zero_add, hk.cell]; simp; omega
        · intro j hj; exact hk.frozen _
        · rintro e w' ⟨rfl, rfl⟩
          have k1 := setCells_blk [Value.int .i64 x] (0 + zs.length) w _ hk (by simp; omega)
          refine ⟨_, rfl, ?_, setCells_fr (by rfl) _ _ _ _ (Fr.refl _ w), .inl rfl⟩
          have hlen : (splice cur.toList (0 + zs.length) [Value.int .i64 x]).length = cap := by
            simp only [splice, List.length_append, List.length_take, List.length_drop, List.length_singleton, hcl]; omega
          rw [ins_list (Nat.le_refl _)]
          refine k1.own hBg (by simp) (by rw [hlen]; omega) (by rw [hlen]; exact hcm) ?_ hlen.symm
          rw [Nat.zero_add]
          unfold splice
          rw [htk', ← List.append_assoc]
          rw [List.take_append_of_le_length (by simp), List.take_of_length_le (by simp)]
          simp
    · have hce : cap = zs.length := by omega
      subst hce
      have hg := grownCap_ge w (zs.length + 1) zs.length 3
      have hgm := grownCap_le_maxLen w (zs.length + 1) zs.length 3 (by unfold maxLen; omega)
      by_cases hlt : i < zs.length
      · refine (Any2.slices_Insert_int_grow laysIns g 0 zs.length zs.length i vb 0 1 1 (zs.map (Value.int .i64)) [.int .i64 x] w hlt (by omega) (by omega) (by omega) (by omega) hml rfl hcs hvc one_cell' h1v).mono ?_
        rintro e w' ⟨rfl, rfl⟩
        have hz1 : (Builtin.zeroCells (Value.int .i64 0).cells (zs.length + 1 - i)).toList.length = zs.length + 1 - i := by rw [Array.length_toList, size_zeroCells]; simp [Value.cells]
        have hz2 : (Builtin.zeroCells (Value.int .i64 0).cells (grownCap w (zs.length + 1) zs.length 3 - (zs.length + 1))).toList.length = grownCap w (zs.length + 1) zs.length 3 - (zs.length + 1) := by rw [Array.length_toList, size_zeroCells]; simp [Value.cells]
        generalize hZ1 : Builtin.zeroCells (Value.int .i64 0).cells (zs.length + 1 - i) = Z1 at *
        have hT : insRen.t 3 = 3 := rfl
        rw [hT] at *
        generalize hZ2 : Builtin.zeroCells (Value.int .i64 0).cells (grownCap w (zs.length + 1) zs.length 3 - (zs.length + 1)) = Z2 at *
        generalize hG : grownCap w (zs.length + 1) zs.length 3 = G at *
        have hk0 : Blk (w.alloc (.cells (((zs.map (Value.int .i64)).take i).toArray ++ Z1 ++ Z2) 3)).drew w.heap.size 3 (((zs.map (Value.int .i64)).take i ++ Z1.toList ++ Z2.toList).toArray) := by
          have := Blk.new w 3 (((zs.map (Value.int .i64)).take i).toArray ++ Z1 ++ Z2)
          have e : (((zs.map (Value.int .i64)).take i ++ Z1.toList ++ Z2.toList).toArray) = ((zs.map (Value.int .i64)).take i).toArray ++ Z1 ++ Z2 := by
            apply Array.ext'
            simp
          rw [e]
          exact this.drew
        have hti : ((zs.map (Value.int .i64)).take i).length = i := by simp; omega
        have hd : ((zs.map (Value.int .i64)).drop i).length = zs.length - i := by simp
        have k1 := setCells_blk [Value.int .i64 x] i _ _ hk0 (by simp only [List.length_append, hti, hz1, hz2, List.length_singleton]; omega)
        have k2 := setCells_blk ((zs.map (Value.int .i64)).drop i) (i + 1) _ _ k1.drew (by simp only [splice, List.length_append, List.length_take, List.length_drop, List.length_singleton, hz1, hz2, List.length_map]; omega)
        refine ⟨_, rfl, ?_, ?_, .inr rfl⟩
        · have hlen : (splice (splice ((zs.map (Value.int .i64)).take i ++ Z1.toList ++ Z2.toList) i [Value.int .i64 x]) (i + 1) ((zs.map (Value.int .i64)).drop i)).length = G := by
            simp only [splice, List.length_append, List.length_take, List.length_drop, List.length_singleton, hz1, hz2, List.length_map]; omega
          rw [ins_list hi]
          refine k2.own hB (by simp; omega) (by rw [hlen]; omega) (by rw [hlen]; exact hgm) ?_ hlen.symm
          generalize hZ : zs.map (Value.int .i64) = Z at *
          rw [ins_b (by omega) (by omega)]
          have : (Z.take i ++ Value.int .i64 x :: Z.drop i).length = zs.length + 1 := by simp; omega
          rw [List.take_append_of_le_length (by omega), List.take_of_length_le (by omega)]
          rw [← hZ]
          simp [List.map_take, List.map_drop]
        · have f1 : Fr (fun b => (Value.slice (some ⟨g, 0, none⟩) zs.length zs.length).ownBlock = some b) w (w.alloc (.cells (((zs.map (Value.int .i64)).take i).toArray ++ Z1 ++ Z2) 3)) := (Fr.refl _ w).alloc _
          exact fr_new (fr_new f1.drew _ _).drew _ _
      · obtain rfl : i = zs.length := by omega
        refine (Any2.slices_Insert_int_end_grow laysIns (some ⟨g, 0, none⟩) zs.length zs.length vb 0 1 1 (zs.map (Value.int .i64)) [.int .i64 x] w (by omega) (Nat.le_refl _) (by omega) (by omega) hml rfl (fun h => by cases h) (fun a h => by injection h with h; subst h; intro j u hj; have := hcs j u hj; rw [Addr.add_lit]; simpa using this) hvc h1v).mono ?_
        rintro e w' ⟨rfl, rfl⟩
        have hT : insRen.t 3 = 3 := rfl
        rw [hT] at *
        have hz2 : (Builtin.zeroCells (Value.int .i64 0).cells (grownCap w (zs.length + 1) zs.length 3 - (zs.length + 1))).toList.length = grownCap w (zs.length + 1) zs.length 3 - (zs.length + 1) := by rw [Array.length_toList, size_zeroCells]; simp [Value.cells]
        generalize hZ2 : Builtin.zeroCells (Value.int .i64 0).cells (grownCap w (zs.length + 1) zs.length 3 - (zs.length + 1)) = Z2 at *
        generalize hG : grownCap w (zs.length + 1) zs.length 3 = G at *
        refine ⟨_, rfl, ?_, ((Fr.refl _ w).drew).alloc _, .inr rfl⟩
        have hk0 : Blk (w.drew.alloc (.cells ((zs.map (Value.int .i64) ++ [Value.int .i64 x]).toArray ++ Z2) 3)) w.heap.size 3 ((zs.map (Value.int .i64) ++ [Value.int .i64 x] ++ Z2.toList).toArray) := by
          have := Blk.new w.drew 3 ((zs.map (Value.int .i64) ++ [Value.int .i64 x]).toArray ++ Z2)
          have e : ((zs.map (Value.int .i64) ++ [Value.int .i64 x] ++ Z2.toList).toArray) = (zs.map (Value.int .i64) ++ [Value.int .i64 x]).toArray ++ Z2 := by
            apply Array.ext'
            simp
          rw [e]
          exact this
        have hlen : (zs.map (Value.int .i64) ++ [Value.int .i64 x] ++ Z2.toList).length = G := by simp only [List.length_append, List.length_map, List.length_singleton, hz2]; omega
        rw [ins_list (Nat.le_refl _)]
        refine hk0.own hB (by simp) (by rw [hlen]; omega) (by rw [hlen]; exact hgm) ?_ hlen.symm
        rw [List.take_append_of_le_length (by simp), List.take_of_length_le (by simp)]
        simp
theorem delete_own (B : Nat) (v : Value) (x : Int) (zs : List Int) (w : World) (hn : (x :: zs).length ≤ 1099511627776) (hown : w.ownsRow B 3 1 v (x :: zs).length ((x :: zs).map (Value.int .i64))) :
    Calls Try.prog 47 #[v, .int .i64 0, .int .i64 1] w (OwnPost B 3 v zs w) := by
  have hmax : maxLen = 9223372036854775807 := rfl
  rcases hown.2 with ⟨rfl, h0⟩ | ⟨g, cap, cur, rfl, hBg, hh, hnc, hcm, hsz, htk⟩
  · simp at h0
  · have hk : Blk w g 3 cur.toList.toArray := by simpa [Blk] using hh
    have hcl : cur.toList.length = cap := by simpa using hsz
    have htk' : cur.toList.take (x :: zs).length = (x :: zs).map (Value.int .i64) := by simpa using htk
    have hcs := hk.cells_map htk'
    refine (Try.slices_Delete_int_cells g 0 (x :: zs).length cap 0 1 (x :: zs) w (Nat.le_refl _) hnc (by omega) (by omega) (by simp) ?_ ?_).mono ?_
    · intro j hj
      refine hcs j _ ?_
      rw [List.getElem?_map, List.getElem?_eq_getElem hj, List.getD_eq_getElem?_getD, List.getElem?_eq_getElem hj]
      rfl
    · intro j hj; exact hk.frozen _
    · rintro e w' ⟨rfl, q, rfl⟩
      have hlist : ((((x :: zs).take (x :: zs).length).take 0 ++ ((x :: zs).take (x :: zs).length).drop 1 ++ List.replicate (1 - 0) 0).map (Value.int .i64)) = zs.map (Value.int .i64) ++ [Value.int .i64 0] := by simp
      rw [hlist]
      have k1 := setCells_blk (zs.map (Value.int .i64) ++ [Value.int .i64 0]) 0 (w.drewN q) _ (hk.drewN q) (by rw [hcl]; simp at hnc ⊢; omega)
      refine ⟨_, rfl, ?_, setCells_fr (by rfl) _ _ _ _ ((Fr.refl _ w).drewN q), .inl rfl⟩
      have hlen : (splice cur.toList 0 (zs.map (Value.int .i64) ++ [Value.int .i64 0])).length = cap := by
        simp only [splice, List.length_append, List.length_take, List.length_drop, List.length_singleton, List.length_map, hcl]; simp at hnc; omega
      refine k1.own hBg (by simp) (by rw [hlen]; simp at hnc ⊢; omega) (by rw [hlen]; exact hcm) ?_ hlen.symm
      unfold splice
      simp
theorem search_own (B : Nat) (v : Value) (x : Int) (zs : List Int) (w : World) (hn : zs.length ≤ 1099511627776) (hs : zs.Pairwise (· ≤ ·)) (hown : w.ownsRow B 3 1 v zs.length (zs.map (Value.int .i64))) :
    Calls Try.prog 48 #[v, .int .i64 x] w fun e w' => (∃ b, e = .returned (.tuple #[.int .i64 (zs.countP (· < x) : Nat), .bool b])) ∧ ∃ q, w' = w.drewN q := by
  rcases hown.2 with ⟨rfl, h0⟩ | ⟨g, cap, cur, rfl, hBg, hh, hnc, hcm, hsz, htk⟩
  · have : zs = [] := List.eq_nil_of_length_eq_zero h0
    subst this
    refine (Try.slices_BinarySearch_int_empty none 0 x w).mono ?_
    rintro e w' ⟨rfl, rfl⟩
    exact ⟨⟨_, rfl⟩, 0, rfl⟩
  · have hk : Blk w g 3 cur.toList.toArray := by simpa [Blk] using hh
    have htk' : cur.toList.take zs.length = zs.map (Value.int .i64) := by simpa using htk
    have hcs := hk.cells_map htk'
    refine (Try.slices_BinarySearch_int g 0 zs.length cap zs x w (Nat.le_refl _) (by omega) ?_ (by rw [List.take_length]; exact hs)).mono ?_
    · intro j hj
      refine hcs j _ ?_
      rw [List.getElem?_map, List.getElem?_eq_getElem hj, List.getD_eq_getElem?_getD, List.getElem?_eq_getElem hj]
      rfl
    · rintro e w' ⟨rfl, q, rfl⟩
      rw [List.take_length]
      exact ⟨⟨_, rfl⟩, q, rfl⟩
end Go.Proofs.Ytnofeebcmmmlhaa
