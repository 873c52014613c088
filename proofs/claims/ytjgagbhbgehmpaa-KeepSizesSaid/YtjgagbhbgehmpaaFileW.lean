/- Layer 12 (file): the writer: contracts. -/
import Derived.Test.YtjgagbhbgehmpaaChecked
import Derived.Test.YtjgagbhbgehmpaaMem
import Derived.Test.YtjgagbhbgehmpaaInfo
import Derived.Test.YtjgagbhbgehmpaaFileP
import Derived.KernelRfl
import Derived.Lib.OthersKept
import Derived.Lib.Walk
import Derived.Deep.RegionHeld3
import Derived.Deep.RegionLaw
import Derived.Lib.SliceRun
import Derived.Deep.AppendLies
import Derived.WalkSpells
namespace Go.Proofs.Ytjgagbhbgehmpaa
open Go.RowKit

def bytesV (bs : List Int) : List Value := bs.map (Value.int .u8)
theorem bytesV_length (bs : List Int) : (bytesV bs).length = bs.length := by simp [bytesV]
theorem bytesV_append (a b : List Int) : bytesV (a ++ b) = bytesV a ++ bytesV b := by simp [bytesV]

abbrev KeptW (b : Nat) (w w' : World) : Prop := Lib.OthersKept 5 (some b) w w'

/-- A writer in a block of the call's own: what it has written. -/
def Wr (B p : Nat) (bs : List Int) (w : World) : Prop :=
  B ≤ p ∧ ∃ v, w.heap[p]? = some (.cells #[v] 56 (0, 0)) ∧ w.ownsRow B 5 1 v bs.length (bytesV bs)

theorem own_kind {w : World} {B : Nat} {e : TypeId} {v : Value} {n : Nat} {xs : List Value} (h : w.ownsRow B e 1 v n xs) : ∀ g, v.ownBlock = some g → ∃ c fz, w.heap[g]? = some (.cells c e fz) := by
  intro g hg
  rcases h.2 with ⟨rfl, _⟩ | ⟨g', cap, cur, rfl, _, hgg, _⟩
  · simp [Value.ownBlock] at hg
  · simp [Value.ownBlock] at hg
    subst hg
    exact ⟨cur, _, hgg⟩

theorem own_heap {w w' : World} {base : Nat} {e : TypeId} {size : Nat} {v : Value} {n : Nat} {xs : List Value} (h : w.ownsRow base e size v n xs) (hk : ∀ g, v.ownBlock = some g → w'.heap[g]? = w.heap[g]?) : w'.ownsRow base e size v n xs := by
  refine ⟨h.1, ?_⟩
  rcases h.2 with h | ⟨g, cap, cur, rfl, h1, h2, h3⟩
  · exact .inl h
  · exact .inr ⟨g, cap, cur, rfl, h1, (hk g rfl).trans h2, h3⟩

theorem Wr.ne {B p : Nat} {t : TypeId} {v : Value} {n : Nat} {xs : List Value} {w : World} {c : Array Value} {fz : Nat × Nat} (hb : w.heap[p]? = some (.cells c t fz)) (hown : w.ownsRow B 5 1 v n xs) (ht : t ≠ 5) : v.ownBlock ≠ some p := fun e => by
  obtain ⟨c, fz, hx⟩ := own_kind hown p e
  rw [hb] at hx
  cases hx
  exact ht rfl

theorem Wr.put {B p : Nat} {bs : List Int} {w : World} {v v' : Value} {n : Nat} {xs : List Value} (hB : B ≤ p) (hb : w.heap[p]? = some (.cells #[v] 56 (0, 0))) (hown : w.ownsRow B 5 1 v' n xs) (hn : n = bs.length) (hx : xs = bytesV bs) :
    Wr B p bs (w.setCell ⟨p, 0, none⟩ v') := by
  subst hn hx
  refine ⟨hB, v', ?_, own_heap hown fun g hg => Below.heap_setCell w _ _ g fun e => Wr.ne hb hown (by decide) (by rw [hg, e])⟩
  exact Blk.set_ (w := w) (g := p) (t := 56) (cs := #[v]) hb 0 v'

theorem Wr.alloc {B p : Nat} {bs : List Int} {w : World} (h : Wr B p bs w) (o : Obj) : Wr B p bs (w.alloc o) := by
  obtain ⟨h1, v, h2, h3⟩ := h
  exact ⟨h1, v, Blk.alloc (g := p) h2 o, h3.alloc o⟩
theorem Wr.drew {B p : Nat} {bs : List Int} {w : World} (h : Wr B p bs w) : Wr B p bs w.drew := h
theorem Wr.lt {B p : Nat} {bs : List Int} {w : World} (h : Wr B p bs w) : p < w.heap.size := by
  obtain ⟨_, v, h2, _⟩ := h
  exact lt_of_block h2
theorem Wr.new (B : Nat) (w : World) (hB : B ≤ w.heap.size) : Wr B w.heap.size [] (w.alloc (.cells #[.slice none 0 0] 56)) :=
  ⟨hB, _, heap_alloc_new w _, World.ownsRow_nil _ _ _ _⟩
theorem Blk.keptW {b g : Nat} {t : TypeId} {cs : Array Value} {w w' : World} (h : Blk w g t cs) (hk : KeptW b w w') (hne : g ≠ b) (ht : t ≠ 5) : Blk w' g t cs :=
  hk g _ h (by simp [hne]) (by intro c fz e; injection e with _ e; exact ht e)

def WrPost (B p : Nat) (bs : List Int) (w : World) (e : Ending) (w' : World) : Prop :=
  e = .returned (.tuple #[]) ∧ Wr B p bs w' ∧ Below B w w' ∧ KeptW p w w'

set_option maxHeartbeats 2000000 in
set_option maxRecDepth 100000 in
theorem writer_put (B p : Nat) (bs : List Int) (n : Int) (size : Nat) (w : World) (h : Wr B p bs w) (hs1 : 1 ≤ size) (hs8 : size ≤ 8) (h0 : 0 ≤ n) (h1 : n < 18446744073709551616) (hlen : bs.length ≤ 1000000000) (hBw : B ≤ w.heap.size) :
    Calls Try.prog 20 #[.pointer (some ⟨p, 0, none⟩), .int .u64 n, .int .i64 size] w (WrPost B p (bs ++ Fp.big n size) w) := by
  obtain ⟨i0, hi, hz0, hz1, hz2⟩ := info_parts byte_info
  have HW := Lib.hid h
  clear h
  go_enter Try.func20, Try.ntmps20
  go_wp2_with fail
  go_loopw [2] (fun i wr => ∃ (k : Nat) (cs : List Int), k ≤ size ∧ i = .int .i64 k ∧ cs.length ≤ 8 ∧ cs ++ Fp.big n k = Fp.big n size ∧ Wr B p (bs ++ cs) wr ∧ Below B w wr ∧ KeptW p w wr) (fun i _ => (intOf i).toNat)
  case atStart => exact ⟨size, [], Nat.le_refl _, rfl, by simp, rfl, by rw [List.append_nil]; exact HW.out, Below.refl _ _, Lib.OthersKept.refl _ _ _⟩
  case round =>
    obtain ⟨k, cs, hk, rfl, hcs, hcat, hWr, hbel, hkept⟩ := hrel
    have HC := Lib.hid hcat
    clear hcat HW
    obtain ⟨hB, v, hblk, hown⟩ := hWr
    cases k with
    | zero =>
      have hcat : cs = Fp.big n size := by have := HC.out; rwa [Fp.big, List.append_nil] at this
      go_wp2_with fail
      go_end0
      exact ⟨rfl, ⟨hB, v, hblk, by rw [← hcat]; exact hown⟩, hbel, hkept⟩
    | succ k =>
      have c0 : wr.cell? ⟨p, 0, none⟩ = some v := by rw [Lib.cell_of_heap hblk]; rfl
      have hk8 : k < 8 := by omega
      have hsz := hbel.size
      have hplt : p < wr.heap.size := lt_of_block hblk
      have ag : v.ownBlock ≠ some p := fun e => by
        obtain ⟨c, fz, hx⟩ := own_kind hown p e
        rw [hblk] at hx
        cases hx
      have hp : (2 : Int) ^ (8 * k) = 256 ^ k := by rw [Int.pow_mul]; rfl
      have v1 : ((k + 1 : Nat) : Int) - 1 = k := by omega
      have v2 : IntKind.i64.wrap (8 * (k : Int)) = 8 * k := IntWalk.i64_in _ (by omega)
      have v3 : (8 * (k : Int)).toNat = 8 * k := by omega
      have v4 : IntKind.u8.wrap (n / 256 ^ k) = n / 256 ^ k % 256 := by rw [IntKind.wrap_u8']
      have v5 : IntKind.i64.wrap (k : Int) = k := IntWalk.i64_in _ (by omega)
      have grown_blk : ∀ (o : Obj) (w1 : World), (wr.alloc o).drew.grownBy w1 v.ownBlock → w1.heap[p]? = some (.cells #[v] 56 (0, 0)) := fun o w1 hg => by
        rw [hg.block p (by simp; omega) (fun e => ag e.symm)]
        exact (Lib.alloc_old wr _ p hplt).trans hblk
      go_wp2_with fail
      go_region_law ((refine step_append_lies _ (by rfl) _ _ _ (by rfl) B 5 i0 _ 1 1 Try.underlying30 hi hz0 hz1 hz2 rfl (by omega) v (bs ++ cs).length (bytesV (bs ++ cs)) (by rfl) ((hown.alloc _).drew) ⟨wr.heap.size, 0, none⟩ 1 1 [.int .u8 (n / 256 ^ k % 256)] (by rfl) (by rfl) (World.news_of_block (cs := #[.int .u8 (n / 256 ^ k % 256)]) (t := 5) (fr := (0, 0)) (heap_alloc_new wr _)) (by simp [Value.oneCell']) (by omega) (by unfold maxLen; simp; omega) (by simp; omega) (by simp; omega) (wr.heap.size + 1) (by simp) ?_; intro gg cap w1 hown1 hgrow hat hlt1; have hb2 := grown_blk _ _ hgrow; have d0 : w1.cell? ⟨p, 0, none⟩ = some v := (by rw [Lib.cell_of_heap hb2]; rfl); have f0 : w1.frozen? ⟨p, 0, none⟩ = false := Lib.frozen_of_heap hb2 0))
      all_goals
        have hb3 : Below B w w1 := (((hbel.alloc (by omega) _).drew).grown hgrow (by simp; omega) (fun g hg => (hown.lt g hg).1))
        have hk3 : KeptW p w w1 := ((hkept.alloc _).drew).grown hgrow (own_kind (hown.alloc _))
        have hW3 : Wr B p (bs ++ (cs ++ [n / 256 ^ k % 256])) (w1.setCell ⟨p, 0, none⟩ (.slice (some ⟨gg, 0, none⟩) ((bs ++ cs).length + 1) cap)) := Wr.put hB hb2 hown1 (by simp; omega) (by simp [bytesV])
        have hlen2 : (bs ++ cs).length + 1 = bs.length + cs.length + 1 := by simp
        rw [hlen2] at hW3
        have HC2 := Lib.hid (show (cs ++ [n / 256 ^ k % 256]) ++ Fp.big n k = Fp.big n size by have := HC.out; rw [← this, Fp.big]; simp)
        have hcs2 : cs.length + k + 1 = size := by have := congrArg List.length HC.out; rw [List.length_append, Fp.big_length, Fp.big_length] at this; omega
        clear hgrow hown1 hat hb2 d0 f0 grown_blk v1 v2 v3 v4 v5 hp hown hbel hkept
        go_wp2_with fail
        go_roundw
        case rel => exact ⟨k, cs ++ [n / 256 ^ k % 256], by omega, by go_num, by simp; omega, HC2.out, hW3, hb3.setCell (p := ⟨p, 0, none⟩) hB _, hk3.setCell ⟨p, 0, none⟩ rfl _⟩
        case measure => simp [intOf]

/-- A row of numbers that the writer at p leaves as it is. -/
def IntsK (B p : Nat) (k : IntKind) (w : World) (A : Option Addr) (zs : List Int) : Prop := ∀ w', Below B w w' → KeptW p w w' → Ints k w' A zs
theorem IntsK.keep {B p : Nat} {k : IntKind} {w w' : World} {A : Option Addr} {zs : List Int} (h : IntsK B p k w A zs) (hb : Below B w w') (hk : KeptW p w w') : IntsK B p k w' A zs := fun w2 h2 h3 => h w2 (hb.trans h2) (hk.trans h3)
theorem Ints.kept {B p : Nat} {k : IntKind} {w : World} {A : Option Addr} {zs : List Int} (h : Ints k w A zs) (hB : w.heap.size ≤ B) : IntsK B p k w A zs := fun _ hb _ => h.below hb hB
/-- A row of numbers that whatever is written above B leaves as it is. -/
def IntsS (B : Nat) (k : IntKind) (w : World) (A : Option Addr) (zs : List Int) : Prop := ∀ w', Below B w w' → Ints k w' A zs
theorem IntsS.below {B : Nat} {k : IntKind} {w w' : World} {A : Option Addr} {zs : List Int} (h : IntsS B k w A zs) (hb : Below B w w') : IntsS B k w' A zs := fun w2 h2 => h w2 (hb.trans h2)
theorem IntsS.now {B : Nat} {k : IntKind} {w : World} {A : Option Addr} {zs : List Int} (h : IntsS B k w A zs) : Ints k w A zs := h w (Below.refl _ _)
theorem Ints.stable {B : Nat} {k : IntKind} {w : World} {A : Option Addr} {zs : List Int} (h : Ints k w A zs) (hB : w.heap.size ≤ B) : IntsS B k w A zs := fun _ hb => h.below hb hB

set_option maxHeartbeats 2000000 in
set_option maxRecDepth 100000 in
theorem writer_shape (B p : Nat) (bs : List Int) (A : Option Addr) (c : Nat) (zs : List Int) (w : World) (h : Wr B p bs w) (hI : IntsS B .i64 w A zs) (hl : zs.length ≤ 1000000) (hlen : bs.length ≤ 900000000) (hBw : B ≤ w.heap.size) :
    Calls Try.prog 21 #[.pointer (some ⟨p, 0, none⟩), .slice A zs.length c] w (WrPost B p (bs ++ Fp.shape zs) w) := by
  have HW := Lib.hid h
  have HI := Lib.hid hI
  clear h hI
  go_enter Try.func21, Try.ntmps21
  go_wp2_with fail
  refine (writer_put B p bs zs.length 1 _ HW.out (by omega) (by omega) (by omega) (by omega) (by omega) hBw).mono ?_
  rintro e w1 ⟨rfl, hW1, hb1, hk1⟩
  rw [← Fp.shapeTo_zero] at hW1
  have hsz1 := hb1.size
  clear HW
  go_wp2_with fail
  go_loopw [13] (fun i wr => ∃ k : Nat, k ≤ zs.length ∧ i = .int .i64 k ∧ Wr B p (bs ++ Fp.shapeTo zs k) wr ∧ Below B w wr ∧ KeptW p w wr) (fun i _ => zs.length - (intOf i).toNat)
  case atStart => exact ⟨0, Nat.zero_le _, rfl, hW1, hb1, hk1⟩
  case round =>
    clear hW1 hb1 hk1 hsz1
    obtain ⟨k, hk, rfl, hWr, hbel, hkept⟩ := hrel
    by_cases hlt : k < zs.length
    · obtain ⟨b, off, rfl, hb, hc⟩ := HI.out wr hbel k hlt
      have HS := Lib.hid (Fp.shapeTo_succ zs k hlt)
      have hkl := Fp.shapeTo_length zs k hk
      have hsz := hbel.size
      have hu : IntKind.u64.wrap zs[k] = zs[k] % 18446744073709551616 := IntKind.wrap_u64 _
      have HW := Lib.hid hWr
      clear hWr
      go_wp2_with fail
      refine (writer_put B p (bs ++ Fp.shapeTo zs k) (zs[k] % 18446744073709551616) 2 _ HW.out (by omega) (by omega) (by omega) (by omega) (by simp; omega) (by omega)).mono ?_
      rintro e w2 ⟨rfl, hW2, hb2, hk2⟩
      rw [Fp.big_wrap _ _ (by omega), List.append_assoc, ← HS.out] at hW2
      have hb3 := hbel.trans hb2
      have hk3 := hkept.trans hk2
      clear hb2 hk2 hbel hkept HW
      go_wp2_with fail
      go_roundw
      case rel => exact ⟨k + 1, by omega, by go_num, hW2, hb3, hk3⟩
      case measure => simp [intOf]; omega
    · obtain rfl : k = zs.length := by omega
      rw [Fp.shapeTo_all] at hWr
      go_wp2_with fail
      go_end0
      exact ⟨rfl, hWr, hbel, hkept⟩

set_option maxHeartbeats 1000000 in
set_option maxRecDepth 100000 in
theorem file_sum (A : Option Addr) (c : Nat) (zs : List Int) (w : World) (hI : Ints .u8 w A zs) (hl : zs.length ≤ 1000000000) (hby : ∀ x ∈ zs, 0 ≤ x ∧ x ≤ 255) :
    Calls Try.prog 38 #[.slice A zs.length c] w fun e w' => e = .returned (.int .u32 (Fp.sum zs)) ∧ w = w' := by
  have HI := Lib.hid hI
  have HB := Lib.hid hby
  clear hI hby
  go_enter Try.func38, Try.ntmps38
  go_wp2_with fail
  go_loopw [3, 8] (fun s i wr => wr = w ∧ ∃ k : Nat, k ≤ zs.length ∧ i = .int .i64 k ∧ s = .int .u32 (Fp.sum (zs.take k))) (fun _ i _ => zs.length - (intOf i).toNat)
  case atStart => exact ⟨rfl, 0, Nat.zero_le _, rfl, rfl⟩
  case round =>
    obtain ⟨rfl, k, hk, rfl, rfl⟩ := hrel
    by_cases hlt : k < zs.length
    · obtain ⟨b, off, rfl, hb, hc⟩ := HI.out k hlt
      have HS := Lib.hid (Fp.sum_step zs k hlt)
      have ⟨hx0, hx1⟩ := HB.out zs[k] (List.getElem_mem hlt)
      have ⟨hs0, hs1⟩ := Fp.sum_range (zs.take k)
      generalize Fp.sum (zs.take k) = sm at *
      have hpr := Int.mul_nonneg (show (0 : Int) ≤ (k : Int) + 1 by omega) hx0
      have v1 : IntKind.i64.wrap ((k : Int) + 1) = (k : Int) + 1 := IntWalk.i64_in _ (by omega)
      have v2 : IntKind.u32.wrap ((k : Int) + 1) = (k : Int) + 1 := IntWalk.u32_in _ (by omega)
      have v3 : IntKind.u32.wrap zs[k] = zs[k] := IntWalk.u32_in _ (by omega)
      have v4 : IntKind.u32.wrap (((k : Int) + 1) * zs[k]) = ((k : Int) + 1) * zs[k] % 4294967296 := IntKind.wrap_u32' _
      have v5 : IntKind.u32.wrap (sm + ((k : Int) + 1) * zs[k] % 4294967296) = (sm + ((k : Int) + 1) * zs[k] % 4294967296) % 4294967296 := IntKind.wrap_u32' _
      clear hpr
      go_wp2_with fail
      go_roundw
      case rel => exact ⟨trivial, k + 1, by omega, by go_num, by rw [HS.out]⟩
      case measure => simp [intOf]; omega
    · obtain rfl : k = zs.length := by omega
      rw [List.take_length]
      go_wp2_with fail
      go_ret
      exact ⟨rfl, rfl⟩

def ClonePost (B : Nat) (zs : List Int) (w : World) (e : Ending) (w' : World) : Prop :=
  ∃ v, e = .returned v ∧ w'.ownsRow B 5 1 v zs.length (bytesV zs) ∧ Below B w w'

set_option maxHeartbeats 1000000 in
set_option maxRecDepth 100000 in
theorem bytes_clone (A : Option Addr) (c : Nat) (zs : List Int) (w : World) (hI : Ints .u8 w A zs) (hl : zs.length ≤ 1000000000) :
    Calls Try.prog 37 #[.slice A zs.length c] w (ClonePost w.heap.size zs w) := by
  obtain ⟨i0, hi, hz0, hz1, hz2⟩ := info_parts byte_info
  have HI := Lib.hid hI
  clear hI
  have hq : ∀ (w : World) (a : Option Addr) (n c n' c' : Nat), (binOp .eql 30 (.slice a n c) (.slice none n' c')).run Try.prog w = .ok (.bool a.isNone) w := fun w a n c n' c' => Lib.run_eql_slice_nil w _ _ a n c n' c' Try.underlying30
  cases A with
  | none =>
    have hz : zs = [] := by
      cases zs with
      | nil => rfl
      | cons x r => obtain ⟨b, off, h, _⟩ := HI.out 0 (by simp); cases h
    subst hz
    go_enter Try.func37, Try.ntmps37
    go_wp2_with fail
    go_ret
    exact ⟨_, rfl, World.ownsRow_nil _ _ _ _, Below.refl _ _⟩
  | some ad =>
    go_enter Try.func37, Try.ntmps37
    go_wp2_with (at_builtin; refine wpList_append_own _ rfl _ _ 30 rfl w.heap.size 5 i0 (.int .u8 0) 1 1 Try.underlying30 hi hz0 hz1 hz2 rfl (by decide) _ 0 [] rfl (World.ownsRow_made w #[] 0 (Nat.le_refl _) (Nat.zero_le _) rfl) ad zs.length c (bytesV zs) rfl ?c1 ?c2 ?c3 ?c4 ?c5 ?c6 ?_)
    case c1 => rw [bytesV_length]; simp
    case c2 =>
      intro j u hj
      unfold bytesV at hj
      obtain ⟨x, hx, rfl⟩ := List.getElem?_map .. ▸ hj |> Option.map_eq_some_iff.1
      obtain ⟨hjl, rfl⟩ := List.getElem?_eq_some_iff.1 hx
      obtain ⟨b, off, e, _, hcell⟩ := HI.out j hjl
      injection e with e
      subst e
      rw [Addr.add_lit]
      refine Lib.cell?_alloc_some _ ?_
      rw [hcell]
      simp [hjl]
    case c3 => intro u hu; obtain ⟨x, _, rfl⟩ := List.mem_map.1 hu; rfl
    case c4 => unfold maxLen; omega
    case c5 => omega
    case c6 => simp
    intro v' w1 hown hgrow hnil
    go_wp2_with fail
    go_ret
    refine ⟨v', rfl, by simpa using hown, ?_⟩
    exact ((Below.refl _ w).alloc (Nat.le_refl _) _).grown hgrow (by simp) (by intro k hk; simp [Value.ownBlock] at hk; omega)

theorem own_cap {w : World} {B n c m : Nat} {e : TypeId} {A : Option Addr} {xs : List Value} (h : w.ownsRow B e 1 (.slice A n c) m xs) : n ≤ c := by
  rcases h.2 with ⟨e, h0⟩ | ⟨g, cap, cur, e, _, _, hc, _⟩
  · injection e with _ e1 e2; omega
  · injection e with _ e1 e2; omega
theorem Wr.ints {B p : Nat} {bs : List Int} {w : World} (h : Wr B p bs w) : ∃ A c, w.heap[p]? = some (.cells #[.slice A bs.length c] 56 (0, 0)) ∧ Ints .u8 w A bs ∧ bs.length ≤ c := by
  obtain ⟨_, v, h2, h3⟩ := h
  obtain ⟨A', c', hv, hn, hI'⟩ := Ints.of_own h3
  subst hv
  exact ⟨A', c', h2, hI', own_cap h3⟩

/-- Bytes that the call made, and what lies below. -/
def SealPost (bs : List Int) (w : World) (e : Ending) (w' : World) : Prop :=
  ∃ A c, e = .returned (.slice A (bs.length + 4) c) ∧ Ints .u8 w' A (bs ++ Fp.big (Fp.sum bs) 4) ∧ bs.length + 4 ≤ c ∧ Below w.heap.size w w'

set_option maxHeartbeats 1000000 in
set_option maxRecDepth 100000 in
theorem writer_seal (B p : Nat) (bs : List Int) (w : World) (h : Wr B p bs w) (hlen : bs.length ≤ 900000000) (hby : ∀ x ∈ bs, 0 ≤ x ∧ x ≤ 255) :
    Calls Try.prog 24 #[.pointer (some ⟨p, 0, none⟩)] w (SealPost bs w) := by
  obtain ⟨A, c, hb, hI, _⟩ := h.ints
  have hp := h.lt
  have HI := Lib.hid hI
  have HY := Lib.hid hby
  have HH := Lib.hid hb
  have hc : w.cell? ⟨p, 0, none⟩ = some (.slice A bs.length c) := by rw [Lib.cell_of_heap hb]; rfl
  clear hI hb h hby
  go_enter Try.func24, Try.ntmps24
  go_wp2_with fail
  refine (bytes_clone A c bs _ HI.out (by omega)).mono ?_
  rintro e w1 ⟨v, rfl, hown, h1⟩
  have hsz1 := h1.size
  obtain ⟨A1, c1, hv, _, _⟩ := Ints.of_own hown
  subst hv
  have hW1 : Wr w.heap.size w1.heap.size bs (w1.alloc (.cells #[.slice A1 bs.length c1] 56)) := ⟨hsz1, _, heap_alloc_new w1 _, hown.alloc _⟩
  have hb2 := h1.alloc hsz1 (.cells #[.slice A1 bs.length c1] 56)
  have hc1 : (w1.alloc (.cells #[.slice A1 bs.length c1] 56)).cell? ⟨p, 0, none⟩ = some (.slice A bs.length c) := by rw [hb2.cell (p := ⟨p, 0, none⟩) hp]; exact hc
  have HI1 := Lib.hid (HI.out.below hb2 (Nat.le_refl _))
  clear hc h1 hown
  have ⟨hs0, hs1⟩ := Fp.sum_range bs
  have hu : IntKind.u64.wrap (Fp.sum bs) = Fp.sum bs := IntWalk.u64_in _ (by omega)
  go_wp2_with fail
  refine (file_sum A c bs _ HI1.out (by omega) HY.out).mono ?_
  rintro e w2 ⟨rfl, rfl⟩
  go_wp2_with fail
  refine (writer_put w.heap.size w1.heap.size bs (Fp.sum bs) 4 _ hW1 (by omega) (by omega) (by omega) (by omega) (by omega) (by simp; omega)).mono ?_
  rintro e w3 ⟨rfl, hW3, hb3, hk3⟩
  obtain ⟨A3, c3, hh3, hI3, hcc3⟩ := hW3.ints
  rw [List.length_append, Fp.big_length] at hcc3
  have hb4 := hb2.trans hb3
  have hc3 : w3.cell? ⟨w1.heap.size, 0, none⟩ = some (.slice A3 (bs.length + 4) c3) := by rw [Lib.cell_of_heap hh3, List.length_append, Fp.big_length]; rfl
  clear hW1 hW3 hb2 hb3 hk3 hc1 hh3
  go_wp2_with fail
  go_ret
  exact ⟨A3, c3, rfl, hI3, hcc3, hb4⟩
end Go.Proofs.Ytjgagbhbgehmpaa
