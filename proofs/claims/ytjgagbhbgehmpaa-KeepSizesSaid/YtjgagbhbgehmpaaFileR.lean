/- Layer 12 (file): the reader: contracts. -/
import Derived.Test.YtjgagbhbgehmpaaFileW
import Derived.Test.YtjgagbhbgehmpaaBits
import Derived.Deep.Slices
namespace Go.Proofs.Ytjgagbhbgehmpaa
open Go.RowKit

/-- A reader in a block: what is left, and whether it fell short. -/
def Rd (r : Nat) (bs : List Int) (sh : Bool) (w : World) : Prop :=
  ∃ A c, Blk w r 91 #[.slice A bs.length c, .bool sh] ∧ Ints .u8 w A bs ∧ bs.length ≤ c ∧ (∀ a, A = some a → a.block < r)

namespace Fp
def short (s : Nat) (bs : List Int) (sh : Bool) : Bool := sh || decide (bs.length < s)
def getV (s : Nat) (bs : List Int) (sh : Bool) : Int := if short s bs sh then 0 else num (bs.take s)
def getL (s : Nat) (bs : List Int) (sh : Bool) : List Int := if short s bs sh then bs else bs.drop s
theorem getV_short {s : Nat} {bs : List Int} {sh : Bool} (h : short s bs sh = true) : getV s bs sh = 0 := by simp [getV, h]
theorem getL_short {s : Nat} {bs : List Int} {sh : Bool} (h : short s bs sh = true) : getL s bs sh = bs := by simp [getL, h]
theorem getV_ok {s : Nat} {bs : List Int} {sh : Bool} (h : short s bs sh = false) : getV s bs sh = num (bs.take s) := by simp [getV, h]
theorem getL_ok {s : Nat} {bs : List Int} {sh : Bool} (h : short s bs sh = false) : getL s bs sh = bs.drop s := by simp [getL, h]
end Fp

def GetPost (r s : Nat) (bs : List Int) (sh : Bool) (w : World) (e : Ending) (w' : World) : Prop :=
  e = .returned (.int .u64 (Fp.getV s bs sh)) ∧ Rd r (Fp.getL s bs sh) (Fp.short s bs sh) w' ∧ w.grownBy w' (some r)

theorem grown_set (w : World) {r i : Nat} (v : Value) : w.grownBy (w.setCell ⟨r, i, none⟩ v) (some r) :=
  ⟨(Below.refl 0 w |>.setCell (p := ⟨r, i, none⟩) (Nat.zero_le _) v).os, (Below.refl 0 w |>.setCell (p := ⟨r, i, none⟩) (Nat.zero_le _) v).tape, (Below.refl 0 w |>.setCell (p := ⟨r, i, none⟩) (Nat.zero_le _) v).output, (Below.refl 0 w |>.setCell (p := ⟨r, i, none⟩) (Nat.zero_le _) v).size, fun k _ hk => Below.heap_setCell w _ _ k fun e => hk (by rw [e])⟩
theorem Ints.set_far {k : IntKind} {w : World} {A : Option Addr} {zs : List Int} {p : Addr} {v : Value} (h : Ints k w A zs) (hne : ∀ a, A = some a → a.block ≠ p.block) : Ints k (w.setCell p v) A zs := fun j hj => by
  obtain ⟨b, off, e, hb, hc⟩ := h j hj
  refine ⟨b, off, e, by simpa using hb, ?_⟩
  rw [← hc]
  exact World.cell?_setCell_far w p ⟨b, off + j, none⟩ v (fun h => hne _ e h.symm)
theorem Rd.fail {r c : Nat} {A : Option Addr} {bs : List Int} {sh : Bool} {w : World} (hb : Blk w r 91 #[.slice A bs.length c, .bool sh]) (hI : Ints .u8 w A bs) (hcap : bs.length ≤ c) (hne : ∀ a, A = some a → a.block < r) :
    Rd r bs true (w.setCell ⟨r, 1, none⟩ (.bool true)) :=
  ⟨A, c, hb.set_ 1 _, hI.set_far (fun a e => Nat.ne_of_lt (hne a e)), hcap, hne⟩

theorem Rd.step {r c b off k : Nat} {bs : List Int} {w : World} (hb : Blk w r 91 #[.slice (some ⟨b, off, none⟩) bs.length c, .bool false]) (hI : Ints .u8 w (some ⟨b, off, none⟩) bs) (hcap : bs.length ≤ c) (hne : ∀ a, some (⟨b, off, none⟩ : Addr) = some a → a.block < r) (hk : k ≤ bs.length) :
    Rd r (bs.drop k) false (w.setCell ⟨r, 0, none⟩ (.slice (some ⟨b, off + k, none⟩) (bs.length - k) (c - k))) := by
  have hbr : b < r := hne _ rfl
  refine ⟨some ⟨b, off + k, none⟩, c - k, ?_, ?_, ?_, ?_⟩
  · rw [List.length_drop]; exact hb.set_ 0 _
  · refine Ints.set_far (Ints.of_row fun j hj => ?_) (by intro a e; injection e with e; subst e; exact Nat.ne_of_lt hbr)
    rw [List.length_drop] at hj
    obtain ⟨b1, off1, e, _, hc⟩ := hI (k + j) (by omega)
    injection e with e
    injection e with e1 e2
    subst e1 e2
    rw [Nat.add_assoc, hc]
    simp [List.getD]
  · rw [List.length_drop]; omega
  · intro a e; injection e with e; subst e; exact hbr

theorem Ints.grown {k : IntKind} {w w' : World} {A : Option Addr} {zs : List Int} {r : Nat} (h : Ints k w A zs) (hg : w.grownBy w' (some r)) (hne : ∀ a, A = some a → a.block ≠ r) : Ints k w' A zs := fun j hj => by
  obtain ⟨b, off, e, hb, hc⟩ := h j hj
  exact ⟨b, off, e, Nat.lt_of_lt_of_le hb hg.size, hg.cell hc (by intro h; injection h with h; exact hne _ e h)⟩
theorem Ints.dropped {k : IntKind} {w : World} {b off : Nat} {zs : List Int} (h : Ints k w (some ⟨b, off, none⟩) zs) (n : Nat) : Ints k w (some ⟨b, off + n, none⟩) (zs.drop n) := Ints.of_row fun j hj => by
  rw [List.length_drop] at hj
  obtain ⟨b1, off1, e, _, hc⟩ := h (n + j) (by omega)
  injection e with e
  injection e with e1 e2
  subst e1 e2
  rw [Nat.add_assoc, hc]
  simp [List.getD]
theorem Ints.taken {k : IntKind} {w : World} {b off : Nat} {zs : List Int} (h : Ints k w (some ⟨b, off, none⟩) zs) (n : Nat) : Ints k w (some ⟨b, off, none⟩) (zs.take n) := Ints.of_row fun j hj => by
  rw [List.length_take] at hj
  obtain ⟨b1, off1, e, _, hc⟩ := h j (by omega)
  injection e with e
  injection e with e1 e2
  subst e1 e2
  rw [hc]
  simp [List.getD, show j < n by omega]
theorem Rd.drewN {r : Nat} {bs : List Int} {sh : Bool} {w : World} (h : Rd r bs sh w) (n : Nat) : Rd r bs sh (w.drewN n) := h
theorem Rd.drew {r : Nat} {bs : List Int} {sh : Bool} {w : World} (h : Rd r bs sh w) : Rd r bs sh w.drew := h
theorem Rd.lt {r : Nat} {bs : List Int} {sh : Bool} {w : World} (h : Rd r bs sh w) : r < w.heap.size := by
  obtain ⟨A, c, hb, _⟩ := h; exact hb.lt

theorem own_slice {w : World} {B : Nat} {e : TypeId} {v : Value} {n : Nat} {zs : List Int} (h : w.ownsRow B e 1 v n (bytesV zs)) :
    ∃ A c, v = .slice A zs.length c ∧ Ints .u8 w A zs ∧ zs.length ≤ c ∧ (∀ a, A = some a → B ≤ a.block ∧ a.block < w.heap.size) := by
  obtain ⟨A, c, rfl, hn, hI⟩ := Ints.of_own h
  refine ⟨A, c, rfl, hI, ?_, ?_⟩
  · rcases h.2 with ⟨e, h0⟩ | ⟨g, cap, cur, e, _, _, hc, _⟩
    · injection e with _ _ e; omega
    · injection e with _ _ e; omega
  · intro a ha
    subst ha
    exact h.lt _ rfl

set_option maxHeartbeats 2000000 in
set_option maxRecDepth 100000 in
theorem reader_get (r : Nat) (bs : List Int) (sh : Bool) (s : Nat) (w : World) (h : Rd r bs sh w) (hs1 : 1 ≤ s) (hs8 : s ≤ 8) (hlen : bs.length ≤ 1000000000) (hby : ∀ x ∈ bs, 0 ≤ x ∧ x ≤ 255) :
    Calls Try.prog 27 #[.pointer (some ⟨r, 0, none⟩), .int .i64 s] w (GetPost r s bs sh w) := by
  obtain ⟨A, c, hb, hI, hcap, hne⟩ := h
  have HI := Lib.hid hI
  have HY := Lib.hid hby
  have HN := Lib.hid hne
  clear hI hby hne
  have c0 := hb.cell 0
  have c1 := hb.cell 1
  have f0 := hb.frozen 0
  have f1 := hb.frozen 1
  simp at c0 c1
  have hblk := Lib.hid hb
  clear hb
  cases sh with
  | true =>
    have HS := Lib.hid (show Fp.short s bs true = true from rfl)
    go_enter Try.func27, Try.ntmps27
    go_wp2_with fail
    go_ret
    exact ⟨by rw [Fp.getV_short HS.out]; rfl, by rw [Fp.getL_short HS.out, HS.out]; exact Rd.fail hblk.out HI.out hcap HN.out, grown_set w _⟩
  | false =>
    by_cases hlt : bs.length < s
    · have HS := Lib.hid (show Fp.short s bs false = true by simp [Fp.short, hlt])
      go_enter Try.func27, Try.ntmps27
      go_wp2_with fail
      go_ret
      exact ⟨by rw [Fp.getV_short HS.out]; rfl, by rw [Fp.getL_short HS.out, HS.out]; exact Rd.fail hblk.out HI.out hcap HN.out, grown_set w _⟩
    · have HS := Lib.hid (show Fp.short s bs false = false by simp [Fp.short]; omega)
      have HV := Lib.hid (Fp.getV_ok HS.out)
      have HL := Lib.hid (Fp.getL_ok HS.out)
      have hsc : (s : Int) ≤ c := by omega
      obtain ⟨b, off, rfl, hbl, _⟩ := HI.out 0 (by omega)
      go_enter Try.func27, Try.ntmps27
      go_wp2_with fail
      go_loopw [5, 39] (fun n i wr => wr = w ∧ ∃ k : Nat, k ≤ s ∧ i = .int .i64 k ∧ n = .int .u64 (Fp.num (bs.take k))) (fun _ i _ => s - (intOf i).toNat)
      case atStart => exact ⟨rfl, 0, Nat.zero_le _, rfl, rfl⟩
      case round =>
        obtain ⟨rfl, k, hk, rfl, rfl⟩ := hrel
        by_cases hks : k < s
        · have hkl : k < bs.length := by omega
          obtain ⟨b1, off1, hA1, _, hc⟩ := HI.out k hkl
          injection hA1 with hA1
          injection hA1 with hA2 hA3
          subst hA2 hA3
          have HT := Lib.hid (Fp.num_step bs k hkl)
          have ⟨hx0, hx1⟩ := HY.out bs[k] (List.getElem_mem hkl)
          have ⟨hn0, hn1⟩ := Fp.num_lt7 (bs.take k) (fun x hx => HY.out x (List.mem_of_mem_take hx)) (by rw [List.length_take]; omega)
          generalize Fp.num (bs.take k) = n at *
          have v1 : IntKind.u64.wrap (n * 256) = n * 256 := IntWalk.u64_in _ (by omega)
          have v2 : IntKind.u64.wrap bs[k] = bs[k] := IntWalk.u64_in _ (by omega)
          have v3 := or_u64_int n bs[k] hn0 hn1 hx0 hx1
          go_wp2_with fail
          go_roundw
          case rel => exact ⟨trivial, k + 1, by omega, by go_num, by rw [HT.out]⟩
          case measure => simp [intOf]; omega
        · obtain rfl : k = s := by omega
          by_cases hck : c = k
          · have hd := Lib.hid (show bs.drop k = [] from List.drop_eq_nil_of_le (by omega))
            have hlk : bs.length - k = 0 := by omega
            go_wp2_with fail
            go_ret
            refine ⟨by rw [HV.out]; rfl, ?_, grown_set wr _⟩
            rw [HL.out, HS.out, hd.out]
            exact ⟨_, 0, hblk.out.set_ 0 _, Ints.nil, Nat.le_refl _, HN.out⟩
          · go_wp2_with fail
            go_ret
            refine ⟨by rw [HV.out]; rfl, ?_, grown_set wr _⟩
            rw [HL.out, HS.out]
            exact Rd.step hblk.out HI.out hcap HN.out (by omega)

def Fp.endE (bs : List Int) (sh : Bool) : Int := if sh then 16 else if bs.length = 0 then 0 else 10
set_option maxHeartbeats 1000000 in
theorem reader_end (r : Nat) (bs : List Int) (sh : Bool) (w : World) (h : Rd r bs sh w) (hlen : bs.length ≤ 1000000000) :
    Calls Try.prog 30 #[.pointer (some ⟨r, 0, none⟩)] w fun e w' => e = .returned (.int .i64 (Fp.endE bs sh)) ∧ w = w' := by
  obtain ⟨A, c, hb, _, _, _⟩ := h
  have c0 := hb.cell 0
  have c1 := hb.cell 1
  simp at c0 c1
  clear hb
  cases sh with
  | true =>
    go_enter Try.func30, Try.ntmps30
    go_wp2_with fail
    go_ret
    exact ⟨rfl, rfl⟩
  | false =>
    by_cases hlt : bs.length = 0
    · have HS := Lib.hid (show Fp.endE bs false = 0 by simp [Fp.endE, hlt])
      go_enter Try.func30, Try.ntmps30
      go_wp2_with fail
      go_ret
      exact ⟨by rw [HS.out]; rfl, rfl⟩
    · have HS := Lib.hid (show Fp.endE bs false = 10 by simp [Fp.endE]; intro e; simp [e] at hlt)
      have hpos : 0 < bs.length := by omega
      go_enter Try.func30, Try.ntmps30
      go_wp2_with fail
      go_ret
      exact ⟨by rw [HS.out]; rfl, rfl⟩

namespace Fp
def body (bs : List Int) : List Int := bs.take (bs.length - 4)
def mark (bs : List Int) : List Int := bs.drop (bs.length - 4)
def openE (bs : List Int) : Int := if bs.length < 8 then 16 else if num (mark bs) = sum (body bs) then 0 else 30
end Fp
def OpenPost (bs : List Int) (w : World) (e : Ending) (w' : World) : Prop :=
  (Fp.openE bs ≠ 0 ∧ e = .returned (.tuple #[.pointer none, .int .i64 (Fp.openE bs)]) ∨ Fp.openE bs = 0 ∧ ∃ r, e = .returned (.tuple #[.pointer (some ⟨r, 0, none⟩), .int .i64 0]) ∧ w.heap.size ≤ r ∧ Rd r (Fp.body bs) false w') ∧ Below w.heap.size w w'

set_option maxHeartbeats 2000000 in
theorem new_reader (A : Option Addr) (c : Nat) (bs : List Int) (w : World) (hI : Ints .u8 w A bs) (hcap : bs.length ≤ c) (hlen : bs.length ≤ 1000000000) (hby : ∀ x ∈ bs, 0 ≤ x ∧ x ≤ 255) :
    Calls Try.prog 26 #[.slice A bs.length c] w (OpenPost bs w) := by
  have HI := Lib.hid hI
  have HY := Lib.hid hby
  clear hI hby
  by_cases h8 : bs.length < 8
  · have HE := Lib.hid (show Fp.openE bs = 16 by simp [Fp.openE, h8])
    go_enter Try.func26, Try.ntmps26
    go_wp2_with fail
    go_ret2
    exact ⟨.inl ⟨by rw [HE.out]; decide, by rw [HE.out]; rfl⟩, Below.refl _ _⟩
  · obtain ⟨b, off, rfl, hbl, _⟩ := HI.out 0 (by omega)
    obtain ⟨n, hn⟩ : ∃ n, bs.length = n + 4 := ⟨bs.length - 4, by omega⟩
    have hck : c ≠ n := by omega
    have v1 : (n + 4 : Int) - 4 = n := by omega
    have HIs := HI.out.dropped n
    have hl4 : (bs.drop n).length = 4 := by rw [List.length_drop]; omega
    have hln : (bs.take n).length = n := by rw [List.length_take]; omega
    have hbne : b ≠ w.heap.size := by omega
    have hR : Rd w.heap.size (bs.drop n) false (w.alloc (.cells #[.slice (some ⟨b, off + n, none⟩) 4 (c - n), .bool false] 91)) := ⟨some ⟨b, off + n, none⟩, c - n, by rw [hl4]; exact Blk.new w _ _, HIs.alloc _, by omega, by intro a e; injection e with e; subst e; exact hbl⟩
    have hIb : Ints .u8 (w.alloc (.cells #[.slice (some ⟨b, off + n, none⟩) 4 (c - n), .bool false] 91)) (some ⟨b, off, none⟩) (bs.take n) := (HI.out.taken n).alloc _
    have hsum : ∀ W, Ints .u8 W (some ⟨b, off, none⟩) (bs.take n) → Calls Try.prog 38 #[.slice (some ⟨b, off, none⟩) n c] W fun e w' => e = .returned (.int .u32 (Fp.sum (bs.take n))) ∧ W = w' := fun W hI => by
      have := file_sum (some ⟨b, off, none⟩) c (bs.take n) W hI (by omega) (fun x hx => HY.out x (List.mem_of_mem_take hx))
      rwa [hln] at this
    have hget : ∀ W, Rd w.heap.size (bs.drop n) false W → Calls Try.prog 27 #[.pointer (some ⟨w.heap.size, 0, none⟩), .int .i64 4] W (GetPost w.heap.size 4 (bs.drop n) false W) := fun W hR =>
      reader_get w.heap.size (bs.drop n) false 4 W hR (by omega) (by omega) (by omega) (fun x hx => HY.out x (List.mem_of_mem_drop hx))
    have HV := Lib.hid (show Fp.getV 4 (bs.drop n) false = Fp.num (bs.drop n) by rw [Fp.getV_ok (by simp [Fp.short, hl4]), List.take_of_length_le (by omega)])
    have hbn := Lib.hid (show ∀ a, some (⟨b, off, none⟩ : Addr) = some a → a.block ≠ w.heap.size by intro a e; injection e with e; subst e; exact hbne)
    have hnc : (n : Int) ≤ c := by omega
    have hu := Lib.hid (show IntKind.u64.wrap (Fp.sum (bs.take n)) = Fp.sum (bs.take n) from IntWalk.u64_in _ (by have := Fp.sum_range (bs.take n); omega))
    have hclone : ∀ W, Ints .u8 W (some ⟨b, off, none⟩) (bs.take n) → Calls Try.prog 37 #[.slice (some ⟨b, off, none⟩) n c] W (ClonePost W.heap.size (bs.take n) W) := fun W hI => by
      have := bytes_clone (some ⟨b, off, none⟩) c (bs.take n) W hI (by omega)
      rwa [hln] at this
    clear HIs
    go_enter Try.func26, Try.ntmps26
    rw [hn]
    go_wp2_with fail
    go_region_with (first
      | (go_at_call 27; refine (hget _ hR.drew).mono ?_; rintro e w1 ⟨rfl, hR1, hg1⟩; have hI1 := hIb.drew.grown hg1 hbn.out)
      | (go_at_call 38; refine (hsum _ hI1).mono ?_; rintro e w2 ⟨rfl, rfl⟩))
    rw [HV.out, hu.out]
    have hsz1 : w.heap.size + 1 ≤ w1.heap.size := by simpa using hg1.size
    have hb1 : Below w.heap.size w w1 := (((Below.refl _ w).alloc (Nat.le_refl _) _).drew).grown hg1 (by simp) (by intro k hk; injection hk with hk; omega)
    by_cases heq : Fp.num (bs.drop n) = Fp.sum (bs.take n)
    · have HE := Lib.hid (show Fp.openE bs = 0 by simp [Fp.openE, Fp.mark, Fp.body, hn, heq]; omega)
      have HBd := Lib.hid (show Fp.body bs = bs.take n by simp [Fp.body, hn])
      have hne : (Fp.num (bs.drop n) != Fp.sum (bs.take n)) = false := by simp [heq]
      clear heq hR hIb hsum hget HV hg1 hR1
      go_wp2_with fail
      refine (hclone _ hI1).mono ?_
      rintro e w3 ⟨v, rfl, hown, hb3⟩
      obtain ⟨A3, c3, rfl, hI3, hcc, hA3⟩ := own_slice hown
      rw [hln]
      have hR3 : Rd w3.heap.size (bs.take n) false (w3.alloc (.cells #[.slice A3 n c3, .bool false] 91)) := ⟨A3, c3, by rw [hln]; exact Blk.new w3 _ _, hI3.alloc _, hcc, fun a e => (hA3 a e).2⟩
      have hb4 := hb1.trans (hb3.mono (by omega))
      have hsz4 := hb4.size
      have hb5 := hb4.alloc hsz4 (.cells #[.slice A3 n c3, .bool false] 91)
      clear hown hI3 hcc hb3 hb1 hI1
      go_wp2_with fail
      go_ret2
      exact ⟨.inr ⟨HE.out, w3.heap.size, rfl, hsz4, by rw [HBd.out]; exact hR3⟩, hb5⟩
    · have HE := Lib.hid (show Fp.openE bs = 30 by simp [Fp.openE, Fp.mark, Fp.body, hn, heq]; omega)
      have hne : (Fp.num (bs.drop n) != Fp.sum (bs.take n)) = true := by simp [heq]
      clear heq hR hIb hsum hget HV hg1 hR1
      go_wp2_with fail
      go_ret2
      exact ⟨.inl ⟨by rw [HE.out]; decide, by rw [HE.out]; rfl⟩, hb1⟩

/-- A reader: what is left (bytes), or short. -/
def RdO (r : Nat) : Option (List Int) → World → Prop
  | some bs, w => Rd r bs false w ∧ (∀ x ∈ bs, 0 ≤ x ∧ x ≤ 255) ∧ bs.length ≤ 1000000000
  | none, w => ∃ bs, Rd r bs true w ∧ (∀ x ∈ bs, 0 ≤ x ∧ x ≤ 255) ∧ bs.length ≤ 1000000000
def GetO (r s : Nat) (st : Option (List Int)) (w : World) (e : Ending) (w' : World) : Prop :=
  e = .returned (.int .u64 (Fp.get s st).1) ∧ RdO r (Fp.get s st).2 w' ∧ w.grownBy w' (some r)
theorem Rd.grownOther {r : Nat} {bs : List Int} {sh : Bool} {w w' : World} {row : Option Nat} (h : Rd r bs sh w) (hg : w.grownBy w' row) (hr : ∀ k, row = some k → r < k) : Rd r bs sh w' := by
  obtain ⟨A, c, hb, hI, hc, hne⟩ := h
  refine ⟨A, c, hb.grown hg (fun e => by have := hr r e.symm; omega), fun j hj => ?_, hc, hne⟩
  obtain ⟨b, off, e, hl, hcell⟩ := hI j hj
  exact ⟨b, off, e, Nat.lt_of_lt_of_le hl hg.size, hg.cell hcell (fun h => by have h1 := hr b h.symm; have h2 : b < r := hne _ e; omega)⟩
theorem RdO.lt {r : Nat} {st : Option (List Int)} {w : World} (h : RdO r st w) : r < w.heap.size := by
  cases st with
  | none => obtain ⟨_, h, _⟩ := h; exact h.lt
  | some bs => exact h.1.lt
theorem RdO.ok {r : Nat} {st : Option (List Int)} {w : World} (h : RdO r st w) : Fp.okB st := by
  cases st with
  | none => trivial
  | some bs => exact h.2.1
theorem RdO.grown {r : Nat} {st : Option (List Int)} {w w' : World} {row : Option Nat} (h : RdO r st w) (hg : w.grownBy w' row) (hr : ∀ k, row = some k → r < k) : RdO r st w' := by
  cases st with
  | none => obtain ⟨bs, h, h2⟩ := h; exact ⟨bs, h.grownOther hg hr, h2⟩
  | some bs => exact ⟨h.1.grownOther hg hr, h.2⟩
theorem RdO.alloc {r : Nat} {st : Option (List Int)} {w : World} (h : RdO r st w) (o : Obj) : RdO r st (w.alloc o) := h.grown (World.grownBy_alloc w o none) (by simp)
theorem RdO.drew {r : Nat} {st : Option (List Int)} {w : World} (h : RdO r st w) : RdO r st w.drew := by
  cases st <;> exact h
theorem RdO.drewN {r : Nat} {st : Option (List Int)} {w : World} (h : RdO r st w) (n : Nat) : RdO r st (w.drewN n) := by
  cases st <;> exact h
theorem RdO.cell1 {r : Nat} {st : Option (List Int)} {w : World} (h : RdO r st w) : w.cell? ⟨r, 1, none⟩ = some (.bool st.isNone) := by
  cases st with
  | none => obtain ⟨_, ⟨A, c, hb, _⟩, _⟩ := h; rw [hb.cell 1]; rfl
  | some bs => obtain ⟨⟨A, c, hb, _⟩, _⟩ := h; rw [hb.cell 1]; rfl

theorem reader_getO (r s : Nat) (st : Option (List Int)) (w : World) (h : RdO r st w) (hs1 : 1 ≤ s) (hs8 : s ≤ 8) :
    Calls Try.prog 27 #[.pointer (some ⟨r, 0, none⟩), .int .i64 s] w (GetO r s st w) := by
  cases st with
  | none =>
    obtain ⟨bs, hR, hby, hl⟩ := h
    refine (reader_get r bs true s w hR hs1 hs8 hl hby).mono ?_
    rintro e w' ⟨rfl, hR', hg⟩
    have hs : Fp.short s bs true = true := rfl
    rw [Fp.getL_short hs, hs] at hR'
    exact ⟨by rw [Fp.getV_short hs]; rfl, ⟨bs, hR', hby, hl⟩, hg⟩
  | some bs =>
    obtain ⟨hR, hby, hl⟩ := h
    refine (reader_get r bs false s w hR hs1 hs8 hl hby).mono ?_
    rintro e w' ⟨rfl, hR', hg⟩
    by_cases hlt : bs.length < s
    · have hs : Fp.short s bs false = true := by simp [Fp.short, hlt]
      rw [Fp.getL_short hs, hs] at hR'
      refine ⟨by rw [Fp.getV_short hs, Fp.get_short hlt], ?_, hg⟩
      rw [Fp.get_short hlt]
      exact ⟨bs, hR', hby, hl⟩
    · have hs : Fp.short s bs false = false := by simp [Fp.short]; omega
      rw [Fp.getL_ok hs, hs] at hR'
      refine ⟨by rw [Fp.getV_ok hs, Fp.get_ok hlt], ?_, hg⟩
      rw [Fp.get_ok hlt]
      exact ⟨hR', fun x hx => hby x (List.mem_of_mem_drop hx), by rw [List.length_drop]; omega⟩

def Fp.endO : Option (List Int) → Int
  | none => 16
  | some bs => if bs.length = 0 then 0 else 10
theorem reader_endO (r : Nat) (st : Option (List Int)) (w : World) (h : RdO r st w) :
    Calls Try.prog 30 #[.pointer (some ⟨r, 0, none⟩)] w fun e w' => e = .returned (.int .i64 (Fp.endO st)) ∧ w = w' := by
  cases st with
  | none => obtain ⟨bs, hR, _, hl⟩ := h; exact reader_end r bs true w hR hl
  | some bs => obtain ⟨hR, _, hl⟩ := h; exact reader_end r bs false w hR hl

def ShapeO (r : Nat) (st : Option (List Int)) (w : World) (e : Ending) (w' : World) : Prop :=
  ∃ v, e = .returned v ∧ w'.ownsRow w.heap.size 3 1 v (Fp.shapeR st).1.length ((Fp.shapeR st).1.map (Value.int .i64)) ∧ RdO r (Fp.shapeR st).2 w' ∧ w.grownBy w' (some r)
set_option maxHeartbeats 2000000 in
theorem reader_shape (r : Nat) (st : Option (List Int)) (w : World) (h : RdO r st w) :
    Calls Try.prog 42 #[.pointer (some ⟨r, 0, none⟩)] w (ShapeO r st w) := by
  obtain ⟨i0, hi, hz0, hz1, hz2⟩ := info_parts int_info
  have hrlt := h.lt
  go_enter Try.func42, Try.ntmps42
  go_wp2_with fail
  refine (reader_getO r 1 st _ h (by omega) (by omega)).mono ?_
  rintro e w1 ⟨rfl, hR1, hg1⟩
  have ⟨hc0, hc1, hc2⟩ := Fp.get_one h.ok
  have HF := Lib.hid (Fp.shapeR_F st)
  have HC := Lib.hid hc2
  have HR := Lib.hid hR1
  have HS := Lib.hid (rfl : (Fp.get 1 st).2 = (Fp.get 1 st).2)
  clear hc2 h hR1
  generalize (Fp.get 1 st).2 = st1 at HF HC HR HS
  generalize (Fp.get 1 st).1 = n at HF HC hc0 hc1
  obtain ⟨c, rfl⟩ := Int.eq_ofNat_of_zero_le hc0
  rw [Int.toNat_natCast] at HF
  have HC2 := Lib.hid (show st1 = none → c = 0 by intro h; have := HC.out h; omega)
  clear HC HS
  go_wp2_with fail
  go_loopw [3, 4] (fun v i wr => ∃ (k : Nat) (acc : List Int) (s2 : Option (List Int)), k ≤ 255 ∧ acc.length + k ≤ 255 ∧ i = .int .u64 k ∧ wr.ownsRow w.heap.size 3 1 v acc.length (acc.map (Value.int .i64)) ∧ RdO r s2 wr ∧ w.grownBy wr (some r) ∧ Fp.shapeR st = Fp.shapeF k acc s2 ∧ (s2 = none → k = 0 ∧ acc = [])) (fun _ i _ => (intOf i).toNat)
  case atStart => exact ⟨c, [], st1, by omega, by simp; omega, rfl, World.ownsRow_nil _ _ _ _, HR.out, hg1, HF.out, fun h => ⟨HC2.out h, rfl⟩⟩
  case round =>
    clear hg1 HR HC2 HF
    obtain ⟨k, acc, s2, hk, hka, rfl, hown, hR, hg, hF, hN⟩ := hrel
    have hsz := hg.size
    have HF := Lib.hid hF
    have HN := Lib.hid hN
    have HR := Lib.hid hR
    have hcell := hR.cell1
    clear hF hN hR
    cases k with
    | zero =>
      obtain ⟨A, cc, rfl, _, _⟩ := Ints.of_own hown
      go_wp2_with fail
      go_ret
      refine ⟨_, rfl, ?_, ?_, hg⟩
      all_goals
        rw [HF.out]
        cases s2 with
        | none => obtain ⟨_, rfl⟩ := HN.out rfl; first | exact hown | exact HR.out
        | some bs => rw [Fp.shapeF_zero]; first | exact hown | exact HR.out
    | succ k =>
      cases s2 with
      | none => have := HN.out rfl; omega
      | some bs =>
        have v1 : ((k + 1 : Nat) : Int) - 1 = k := by omega
        go_wp2_with fail
        refine (reader_getO r 2 (some bs) _ HR.out (by omega) (by omega)).mono ?_
        rintro e w2 ⟨rfl, hR2, hg2⟩
        have hg3 := hg.trans hg2
        by_cases hlt : bs.length < 2
        · have HG := Lib.hid (Fp.get_short hlt)
          rw [HG.out] at hR2 ⊢
          have hc1 := hR2.cell1
          have HR2 := Lib.hid hR2
          clear hR2 hg hg2
          go_wp2_with fail
          go_ret
          exact ⟨_, rfl, by rw [HF.out, Fp.shapeF_short hlt]; exact World.ownsRow_nil _ _ _ _, by rw [HF.out, Fp.shapeF_short hlt]; exact HR2.out, hg3⟩
        · have HG := Lib.hid (Fp.get_ok hlt)
          have ⟨hx0, hx1⟩ := Fp.two_bytes HR.out.2.1 hlt
          have HO := Lib.hid (Fp.shapeF_ok (c := k) (acc := acc) hlt)
          rw [HG.out] at hR2 ⊢
          have hc1 := hR2.cell1
          have HR2 := Lib.hid hR2
          have hown2 : w2.ownsRow w.heap.size 3 1 _ acc.length (acc.map (Value.int .i64)) := hown.kept hg2 (.inr (fun e => by have := (hown.lt r e).1; omega))
          have hsz2 := hg3.size
          clear hR2 hg hg2 hown
          generalize Fp.num (bs.take 2) = x at hx0 hx1 HO HG
          go_wp2_with (at_builtin; refine wpList_append_own _ rfl _ _ 45 rfl w.heap.size 3 i0 (.int .i64 0) 1 8 Try.underlying45 hi hz0 hz1 hz2 rfl (by decide) _ _ _ rfl (hown2.alloc _) ⟨w2.heap.size, 0, none⟩ 1 1 [.int .i64 x] rfl rfl ?c1 ?c2 ?c3 ?c4 ?c5 ?_)
          case c1 => exact one_new _ _ _
          case c2 => intro u hu; simp at hu; subst hu; rfl
          case c3 => unfold maxLen; omega
          case c4 => omega
          case c5 => simp; omega
          intro v' w3 hown3 hgrow _
          have hrow : ∀ k, u3.ownBlock = some k → r < k := fun k hk => by have := (hown2.lt k hk).1; omega
          have hR3 := (HR2.out.alloc (.cells #[.int .i64 x] 3)).grown hgrow hrow
          have hg4 : w.grownBy w3 (some r) := (hg3.trans (World.grownBy_alloc w2 _ (some r))).andThen hgrow (fun j hj => .inl (hown2.lt j hj).1)
          have hown4 : w3.ownsRow w.heap.size 3 1 v' (acc ++ [x]).length ((acc ++ [x]).map (Value.int .i64)) := by simpa using hown3
          clear hown3 hgrow hrow hown2 hg3 HR2 hc1 hcell
          go_wp2_with fail
          go_roundw
          case rel => exact ⟨k, acc ++ [x], some (bs.drop 2), by omega, by simp; omega, by go_num, hown4, hR3, hg4, by rw [HF.out, HO.out], by simp⟩
          case measure => simp [intOf]
end Go.Proofs.Ytjgagbhbgehmpaa
