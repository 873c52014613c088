/- Lemmas for the statements of this seat: contracts of functions and the plain laws. -/
import Derived.BigQuiet
import Derived.Deep.AppendLies
import Derived.Deep.DeepMust
import Derived.Deep.RegionHeld3
import Derived.Deep.RegionLaw
import Derived.Laws.Bits64b
import Derived.Lib.ConvBytes
import Derived.Lib.Hide
import Derived.WalkSpells
import Derived.Test.YtkmhagjdafeebaaGreatChecked
import Derived.Test.YtkmhagjdafeebaaGreatZ02
set_option linter.unusedVariables false
/- Layer 24 (optim): copies, Begin, State.Copy: contracts. -/
namespace Go.Proofs.YtkmhagjdafeebaaGreat
open Go.RowKit
theorem tenC_info : (Tryz.prog.info? 26).map (fun i => (i.zero, i.size, i.bytes)) = some (some (.agg #[.slice none 0 0, .slice none 0 0]), 2, 48) := by kernel_rfl
theorem made_two (k : Nat) : (madeCells #[Value.slice none 0 0, Value.slice none 0 0] k).toList = List.replicate k (Value.slice none 0 0) := by
  unfold madeCells
  rw [Array.toList_map, Array.toList_range]
  apply List.ext_getElem
  · simp
  · intro i h1 h2
    simp only [List.getElem_map, List.getElem_range, List.getElem_replicate]
    rcases Nat.mod_two_eq_zero_or_one i with e | e
    · simp [e]
    · simp [e]
theorem row_own {w : World} {B e size n g : Nat} {xs : List Value} (h : w.ownsRow B e size (.slice (some ⟨g, 0, none⟩) n n) n xs) : Blk w g e xs.toArray := by
  rcases h.2 with ⟨h1, _⟩ | ⟨g', cap, cur, e1, _, hh, _, _, hs, ht⟩
  · cases h1
  · injection e1 with e1 _ e2
    injection e1 with e1
    injection e1 with e1 _ _
    subst e1 e2
    have : cur.toList = xs := by rw [← ht, List.take_of_length_le (by simp; omega)]
    rw [← this]
    exact hh
theorem put_two {vs : List Value} {m k : Nat} {a b z : Value} (hl : vs.length = k * 2) (hk : k < m) :
    (((vs ++ List.replicate ((m - k) * 2) z).set (k * 2) a).set (k * 2 + 1) b) = (vs ++ [a, b]) ++ List.replicate ((m - (k + 1)) * 2) z := by
  have e : (m - k) * 2 = (m - (k + 1)) * 2 + 1 + 1 := by omega
  rw [e, List.replicate_succ, List.replicate_succ, List.set_append_right _ _ (by omega), hl, Nat.sub_self, List.set_cons_zero, List.set_append_right _ _ (by omega), hl, Nat.add_sub_cancel_left, List.set_cons_succ, List.set_cons_zero, List.append_assoc]
  rfl
theorem cells_len2 (L : List TenA) : (L.flatMap TenA.cells).length = L.length * 2 := by
  induction L with
  | nil => rfl
  | cons x r ih => simp [ih, TenA.cells]; omega
theorem cells_at (L : List TenA) (j : Nat) (hj : j < L.length) : (L.flatMap TenA.cells)[j * 2]? = some (.slice (some ⟨L[j].2.1, 0, none⟩) L[j].1.s.length L[j].1.s.length) ∧ (L.flatMap TenA.cells)[j * 2 + 1]? = some (.slice (some ⟨L[j].2.2, 0, none⟩) L[j].1.c.length L[j].1.c.length) := by
  induction L generalizing j with
  | nil => simp at hj
  | cons x r ih =>
    match j with
    | 0 => simp [TenA.cells]
    | j + 1 =>
      have := ih j (by simpa using hj)
      rw [show (j + 1) * 2 = j * 2 + 1 + 1 by omega]
      simpa [TenA.cells] using this
/-- A row of tensors, all of it in blocks from B on. -/
structure CpsR (B G : Nat) (L : List TenA) (w : World) : Prop where
  base : B ≤ G
  row : Blk w G 26 (L.flatMap TenA.cells).toArray
  ok : ∀ x ∈ L, x.ok w
  low : ∀ x ∈ L, B ≤ x.2.1 ∧ B ≤ x.2.2
theorem TenA.ok_agree {x : TenA} {w w' : World} (h : x.ok w) (ha : ∀ b, b = x.2.1 ∨ b = x.2.2 → w'.heap[b]? = w.heap[b]?) : x.ok w' := ⟨(ha _ (.inl rfl)).trans h.1, (ha _ (.inr rfl)).trans h.2⟩
theorem TenA.ok_later {x : TenA} {w w' : World} (h : x.ok w) (hl : Later w w') : x.ok w' := ⟨hl.blk h.1, hl.blk h.2⟩
theorem CpsR.later {B G : Nat} {L : List TenA} {w w' : World} (h : CpsR B G L w) (hl : Later w w') : CpsR B G L w' := ⟨h.base, hl.blk h.row, fun x hx => TenA.ok_later (h.ok x hx) hl, h.low⟩
theorem CpsR.tens {B G : Nat} {L : List TenA} {w : World} (h : CpsR B G L w) (hs : ∀ x ∈ L, x.1.s.length ≤ 1000000 ∧ x.1.c.length ≤ 1000000) : Tens w (some ⟨G, 0, none⟩) (L.map (·.1)) := fun j hj => by
  have hj' : j < L.length := by simpa using hj
  obtain ⟨c0, c1⟩ := cells_at L j hj'
  have hx := List.getElem_mem hj'
  have e : (L.map (·.1))[j] = L[j].1 := by simp
  rw [e]
  have hb := hs _ hx
  exact ⟨G, 0, _, _, _, _, rfl, h.row.lt, by rw [Nat.zero_add, h.row.cell]; simpa using c0, by rw [Nat.zero_add, h.row.cell]; simpa using c1, ⟨(h.ok _ hx).1.ints, (h.ok _ hx).2.ints⟩, by omega, by omega⟩
/-- What it says stays wherever the blocks from B on stay. -/
theorem CpsR.on {B G : Nat} {L : List TenA} {w : World} (h : CpsR B G L w) : On (fun b => B ≤ b ∧ b < w.heap.size) w (CpsR B G L) := fun w' ha =>
  ⟨h.base, (ha _ ⟨h.base, h.row.lt⟩).trans h.row, fun x hx => TenA.ok_agree (h.ok x hx) fun b hb => by
    rcases hb with rfl | rfl
    · exact ha _ ⟨(h.low x hx).1, (h.ok x hx).1.lt⟩
    · exact ha _ ⟨(h.low x hx).2, (h.ok x hx).2.lt⟩, h.low⟩
def CpsP (ts : List Ten) (w : World) (e : Ending) (w' : World) : Prop :=
  ∃ G L, e = .returned (.slice (some ⟨G, 0, none⟩) ts.length ts.length) ∧ L.map (·.1) = ts ∧ (L.map (·.2.2)).Nodup ∧ CpsR w.heap.size G L w' ∧ Below w.heap.size w w'
set_option maxHeartbeats 4000000 in
theorem optim_copies (A : Option Addr) (c : Nat) (ts : List Ten) (w : World) (hl : ts.length ≤ 1000000) (hs : Tn.small ts) (hT : Tens w A ts) :
    Calls Tryz.prog 52 #[.slice A ts.length c] w (CpsP ts w) := by
  have HT := Lib.hid hT
  have Hs := Lib.hid hs
  clear hT hs
  go_enter Tryz.func52, Tryz.ntmps52
  obtain ⟨i0, hi, hz0, hz1, hz2⟩ := info_parts tenC_info
  go_wp2_with (at_make; refine wpList_make_full _ rfl _ _ 27 rfl w.heap.size 26 i0 (.agg #[.slice none 0 0, .slice none 0 0]) 2 Tryz.underlying27 hi hz0 hz1 _ _ _ _ ts.length rfl rfl (by first | rfl | simp) (by first | rfl | simp) ?b2 ?b3 (Nat.le_refl _) ?_)
  case b2 => rw [hz2]; omega
  case b3 => unfold maxLen; omega
  intro w1 hown hgrow
  clear hi hz0 hz1 hz2
  have hrow : Blk w1 w.heap.size 26 ((([] : List TenA).flatMap TenA.cells) ++ List.replicate ((ts.length - 0) * 2) (Value.slice none 0 0)).toArray := by
    have h := row_own hown
    rw [made_two] at h
    simpa using h
  have h01 : Later w w1 := (Below.refl _ w).grown hgrow (Nat.le_refl _) (by simp)
  clear hown hgrow
  have Hrow := Lib.hid hrow
  have H01 := Lib.hid h01
  clear hrow h01
  go_wp2_with fail
  go_loopw [11] (fun i wx => ∃ (k : Nat) (L : List TenA), k ≤ ts.length ∧ i = .int .i64 (k : Int) ∧ L.map (·.1) = ts.take k ∧ (L.map (·.2.2)).Nodup ∧ Blk wx w.heap.size 26 (L.flatMap TenA.cells ++ List.replicate ((ts.length - k) * 2) (Value.slice none 0 0)).toArray ∧ (∀ x ∈ L, x.ok wx ∧ w.heap.size < x.2.1 ∧ w.heap.size < x.2.2) ∧ Later w wx) (fun i _ => ts.length - (intOf i).toNat)
  case atStart => exact ⟨0, [], Nat.zero_le _, rfl, rfl, List.nodup_nil, Hrow.out, by simp, H01.out⟩
  case round =>
    obtain ⟨k, L, hk, rfl, hL, hnd, hG, hok, hlx⟩ := hrel
    clear Hrow H01
    by_cases hlt : k < ts.length
    · obtain ⟨b, off, S, cS, C, dC, rfl, hb, c0, c1, hTR, hs1, hs2⟩ := HT.out.below hlx (Nat.le_refl _) k hlt
      have hsm := Hs.out ts[k] (List.getElem_mem hlt)
      have hLn : L.length = k := by have := congrArg List.length hL; simp at this; omega
      have hnx : ts.take (k + 1) = L.map (·.1) ++ [ts[k]] := by rw [List.take_succ_eq_append_getElem hlt, hL]
      have hGl := hG.lt
      generalize ts[k] = t at *
      have h0 := Later.alloc (Later.refl wr) (.cells #[.slice S t.s.length cS, .slice C t.c.length dC] 26)
      have r1 : (k : Int) < (ts.length : Int) := by omega
      have HTR := Lib.hid hTR
      have H0 := Lib.hid h0
      have HL := Lib.hid hL
      have Hnd := Lib.hid hnd
      have HG := Lib.hid hG
      have Hok := Lib.hid hok
      have Hlx := Lib.hid hlx
      have HLn := Lib.hid hLn
      have Hnx := Lib.hid hnx
      clear hTR h0 hL hnd hG hok hlx hLn hnx
      go_wp2_with fail
      refine (tensor_copy S C cS dC t _ (by omega) (by omega) ⟨HTR.out.1.below H0.out (Nat.le_refl _), HTR.out.2.below H0.out (Nat.le_refl _)⟩).mono ?_
      rintro e w2 ⟨v, rfl, ⟨g, h, rfl, hg, hh, hgb, hhb⟩, h2⟩
      have hr2 := H0.out.trans h2
      have hG2 := hr2.blk HG.out
      rw [World.size_alloc] at hg hh
      have hfl := put_two (m := ts.length) (a := .slice (some ⟨g, 0, none⟩) t.s.length t.s.length) (b := .slice (some ⟨h, 0, none⟩) t.c.length t.c.length) (z := Value.slice none 0 0) (show (L.flatMap TenA.cells).length = k * 2 by rw [cells_len2, HLn.out]) hlt
      obtain ⟨u0, q0⟩ : ∃ u, w2.cell? ⟨w.heap.size, k * 2, none⟩ = some u := by rw [hG2.cell]; exact ⟨_, by rw [List.getElem?_toArray, List.getElem?_eq_getElem (by rw [List.length_append, cells_len2, List.length_replicate, HLn.out]; omega)]⟩
      obtain ⟨u1, q1⟩ : ∃ u, w2.cell? ⟨w.heap.size, k * 2 + 1, none⟩ = some u := by rw [hG2.cell]; exact ⟨_, by rw [List.getElem?_toArray, List.getElem?_eq_getElem (by rw [List.length_append, cells_len2, List.length_replicate, HLn.out]; omega)]⟩
      have f0 := hG2.frozen (k * 2)
      have f1 := hG2.frozen (k * 2 + 1)
      have hG3 : Blk ((w2.setCell ⟨w.heap.size, k * 2, none⟩ (.slice (some ⟨g, 0, none⟩) t.s.length t.s.length)).setCell ⟨w.heap.size, k * 2 + 1, none⟩ (.slice (some ⟨h, 0, none⟩) t.c.length t.c.length)) w.heap.size 26 ((L ++ [(t, g, h)]).flatMap TenA.cells ++ List.replicate ((ts.length - (k + 1)) * 2) (Value.slice none 0 0)).toArray := by
        have := (hG2.set_ (k * 2) (.slice (some ⟨g, 0, none⟩) t.s.length t.s.length)).set_ (k * 2 + 1) (.slice (some ⟨h, 0, none⟩) t.c.length t.c.length)
        rw [show (L ++ [(t, g, h)]).flatMap TenA.cells = L.flatMap TenA.cells ++ [Value.slice (some ⟨g, 0, none⟩) t.s.length t.s.length, Value.slice (some ⟨h, 0, none⟩) t.c.length t.c.length] by simp [TenA.cells], ← hfl]
        simpa using this
      have hok2 : ∀ x ∈ L ++ [(t, g, h)], x.ok ((w2.setCell ⟨w.heap.size, k * 2, none⟩ (.slice (some ⟨g, 0, none⟩) t.s.length t.s.length)).setCell ⟨w.heap.size, k * 2 + 1, none⟩ (.slice (some ⟨h, 0, none⟩) t.c.length t.c.length)) ∧ w.heap.size < x.2.1 ∧ w.heap.size < x.2.2 := fun x hx => by
        have hf : ∀ {b : Nat}, w.heap.size < b → ((w2.setCell ⟨w.heap.size, k * 2, none⟩ (.slice (some ⟨g, 0, none⟩) t.s.length t.s.length)).setCell ⟨w.heap.size, k * 2 + 1, none⟩ (.slice (some ⟨h, 0, none⟩) t.c.length t.c.length)).heap[b]? = w2.heap[b]? := fun {b} hb => (Below.heap_setCell _ _ _ b (by simp; omega)).trans (Below.heap_setCell _ _ _ b (by simp; omega))
        rcases List.mem_append.1 hx with hx | hx
        · obtain ⟨k1, k2, k3⟩ := Hok.out x hx
          exact ⟨TenA.ok_agree (TenA.ok_later k1 hr2) fun b hb => hf (by rcases hb with rfl | rfl <;> assumption), k2, k3⟩
        · obtain rfl := List.mem_singleton.1 hx
          exact ⟨TenA.ok_agree (x := (t, g, h)) (w := w2) ⟨hgb, hhb⟩ fun b hb => hf (by rcases hb with rfl | rfl <;> omega), (show w.heap.size < g by omega), (show w.heap.size < h by omega)⟩
      have hnd2 : ((L ++ [(t, g, h)]).map (·.2.2)).Nodup := by
        rw [List.map_append, List.nodup_append]
        refine ⟨Hnd.out, by simp, fun a ha b hb => ?_⟩
        obtain ⟨x, hx, rfl⟩ := List.mem_map.1 ha
        obtain rfl : b = h := by simpa using hb
        have := (Hok.out x hx).1.2.lt
        omega
      have hl2 := ((H0.out.trans h2)).set (p := ⟨wr.heap.size, 0, none⟩) (Nat.le_refl _) (.int .i64 0)
      have hl3 := ((Hlx.out.trans hr2).set (p := ⟨w.heap.size, k * 2, none⟩) (Nat.le_refl _) (.slice (some ⟨g, 0, none⟩) t.s.length t.s.length)).set (p := ⟨w.heap.size, k * 2 + 1, none⟩) (Nat.le_refl _) (.slice (some ⟨h, 0, none⟩) t.c.length t.c.length)
      have hL2 : (L ++ [(t, g, h)]).map (·.1) = ts.take (k + 1) := by rw [Hnx.out, List.map_append]; rfl
      have HG3 := Lib.hid hG3
      have Hok2 := Lib.hid hok2
      have Hnd2 := Lib.hid hnd2
      have Hl3 := Lib.hid hl3
      have HL2 := Lib.hid hL2
      clear hG3 hok2 hnd2 hl3 hL2
      clear hl2 hr2 hG2 hfl hgb hhb h2 c0 c1
      go_wp2_with fail
      go_roundw
      case rel => exact ⟨k + 1, L ++ [(t, g, h)], by omega, by go_num, HL2.out, Hnd2.out, HG3.out, Hok2.out, Hl3.out⟩
      case measure => simp [intOf]; omega
    · obtain rfl : k = ts.length := by omega
      rw [Nat.sub_self, Nat.zero_mul, List.replicate_zero, List.append_nil] at hG
      rw [List.take_length] at hL
      have HG := Lib.hid hG
      have Hok := Lib.hid hok
      have Hnd := Lib.hid hnd
      have HL := Lib.hid hL
      have Hlx := Lib.hid hlx
      clear hG hok hnd hL hlx
      go_wp2_with fail
      go_ret
      exact ⟨w.heap.size, L, rfl, HL.out, Hnd.out, ⟨Nat.le_refl _, HG.out, fun x hx => (Hok.out x hx).1, fun x hx => ⟨Nat.le_of_lt (Hok.out x hx).2.1, Nat.le_of_lt (Hok.out x hx).2.2⟩⟩, Hlx.out⟩
end Go.Proofs.YtkmhagjdafeebaaGreat
/- The document's bytes (references 12 and 27): contracts. -/
namespace Go.Proofs.YtkmhagjdafeebaaGreat
open Go.RowKit

/-- A string's bytes as numbers. -/
def numsOf (s : ByteArray) : List Int := s.data.toList.map fun c => (c.toNat : Int)
theorem numsOf_length (s : ByteArray) : (numsOf s).length = s.size := by unfold numsOf; rw [List.length_map]; rfl
theorem numsOf_byte (s : ByteArray) : ∀ x ∈ numsOf s, 0 ≤ x ∧ x ≤ 255 := fun x hx => by
  obtain ⟨c, _, rfl⟩ := List.mem_map.1 hx
  have := c.toNat_lt
  omega
theorem numsOf_str {bs : List Int} (h : ∀ x ∈ bs, 0 ≤ x ∧ x ≤ 255) : numsOf (strOfNums bs) = bs := by
  unfold numsOf strOfNums
  simp only [List.map_map]
  conv => rhs; rw [← List.map_id bs]
  apply List.map_congr_left
  intro x hx
  have := h x hx
  simp only [Function.comp, id, UInt8.toNat_ofNat']
  omega
theorem str_numsOf (s : ByteArray) : strOfNums (numsOf s) = s := by
  unfold numsOf strOfNums
  simp only [List.map_map]
  have : (s.data.toList.map ((fun n : Int => UInt8.ofNat n.toNat) ∘ fun c : UInt8 => (c.toNat : Int))) = s.data.toList := by
    conv => rhs; rw [← List.map_id s.data.toList]
    apply List.map_congr_left
    intro c _
    simp
  rw [this]
theorem numsOf_get (s : ByteArray) (k : Nat) (h : k < s.size) : (numsOf s)[k]'(by rw [numsOf_length]; exact h) = ((s[k]).toNat : Int) := by
  simp [numsOf]; rfl
theorem str_inj {a b : List Int} (ha : ∀ x ∈ a, 0 ≤ x ∧ x ≤ 255) (hb : ∀ x ∈ b, 0 ≤ x ∧ x ≤ 255) (h : strOfNums a = strOfNums b) : a = b := by
  rw [← numsOf_str ha, h, numsOf_str hb]
theorem str_size_le {bs : List Int} {n : Nat} (h : bs.length ≤ n) : (strOfNums bs).size ≤ n := by rw [strOfNums_size]; exact h

theorem run_str1 (W : World) (x : Int) : (convert 33 9 (.slice (some ⟨W.heap.size, 0, none⟩) 1 1)).run Tryz.prog (W.alloc (.cells #[.int .u8 x] 5)) = .ok (.string (strOfNums [x])) (W.alloc (.cells #[.int .u8 x] 5)) :=
  run_string_of (zs := [x]) 1 33 5 9 Tryz.underlying33 Tryz.underlying5 Tryz.underlying9 (Ints.of_row fun j hj => by obtain rfl : j = 0 := (by simpa using hj); simp)
set_option maxHeartbeats 1000000 in
theorem ref_big (n : Int) (size : Nat) (w : World) (h0 : 0 ≤ n) (h1 : n < 18446744073709551616) (hs : size ≤ 8) :
    Calls Tryz.prog 20 #[.int .u64 n, .int .i64 size] w fun e w' => e = .returned (.string (strOfNums (Fp.big n size))) ∧ Below w.heap.size w w' := by
  have hcv := run_str1
  have hs1 : ∀ x : Int, (strOfNums [x]).size = 1 := fun _ => rfl
  go_enter Tryz.func20, Tryz.ntmps20
  go_wp2_with fail
  go_loopw [0, 5, 6] (fun m s i wr => ∃ (k : Nat) (q : Int) (t : ByteArray), k ≤ size ∧ i = .int .i64 k ∧ m = .int .u64 q ∧ q = n / 256 ^ k ∧ 0 ≤ q ∧ q < 18446744073709551616 ∧ s = .string t ∧ t = strOfNums (Fp.big n k) ∧ t.size ≤ 8 ∧ Below w.heap.size w wr) (fun _ _ i _ => size - (intOf i).toNat)
  case atStart => exact ⟨0, n, _, Nat.zero_le _, rfl, rfl, by simp, h0, h1, rfl, rfl, by simp [ByteArray.size], Below.refl _ _⟩
  case round =>
    obtain ⟨k, q, t, hk, rfl, rfl, hq, hq0, hq1, rfl, ht, hts, hbel⟩ := hrel
    have Hq := Lib.hid hq
    have Ht := Lib.hid ht
    clear hq ht
    by_cases hlt : k < size
    · have hx : IntKind.u8.wrap (q % 256) = q % 256 := by rw [IntKind.wrap_u8']; omega
      have HT := Lib.hid (show strOfNums [q % 256] ++ t = strOfNums (Fp.big n (k + 1)) by rw [Ht.out, ← strOfNums_append, Fp.big, Hq.out]; rfl)
      have HQ := Lib.hid (show q / 256 = n / 256 ^ (k + 1) by rw [Hq.out, Int.ediv_ediv_of_nonneg (Int.pow_nonneg (by decide)), Int.pow_succ])
      have HZ := Lib.hid (show (strOfNums [q % 256] ++ t).size ≤ 8 by rw [HT.out, strOfNums_size, Fp.big_length]; omega)
      go_wp2_with fail
      go_roundw
      case rel => exact ⟨k + 1, q / 256, _, by omega, by go_num, rfl, HQ.out, by omega, by omega, rfl, HT.out, HZ.out, hbel.alloc hbel.size _⟩
      case measure => simp [intOf]; omega
    · obtain rfl : k = size := by omega
      go_wp2_with fail
      go_ret
      exact ⟨by rw [← Ht.out]; rfl, hbel⟩

set_option maxHeartbeats 1000000 in
theorem ref_sum (s : ByteArray) (w : World) (hs : s.size ≤ 1000000000) :
    Calls Tryz.prog 21 #[.string s] w fun e w' => e = .returned (.int .u64 (Fp.sum (numsOf s))) ∧ w = w' := by
  go_enter Tryz.func21, Tryz.ntmps21
  go_wp2_with fail
  go_loopw [3, 4] (fun n i wr => wr = w ∧ ∃ k : Nat, k ≤ s.size ∧ i = .int .i64 k ∧ n = .int .u64 (Fp.sum ((numsOf s).take k))) (fun _ i _ => s.size - (intOf i).toNat)
  case atStart => exact ⟨rfl, 0, Nat.zero_le _, rfl, rfl⟩
  case round =>
    obtain ⟨rfl, k, hk, rfl, rfl⟩ := hrel
    by_cases hlt : k < s.size
    · have hl := numsOf_length s
      have HS := Lib.hid (Fp.sum_step (numsOf s) k (by omega))
      have hg := numsOf_get s k hlt
      rw [hg] at HS
      have hb := (s[k]).toNat_lt
      have ⟨hs0, hs1⟩ := Fp.sum_range ((numsOf s).take k)
      clear hl hg
      generalize Fp.sum ((numsOf s).take k) = sm at *
      have hx0 : (0 : Int) ≤ (s[k].toNat : Int) := by omega
      have hx1 : (s[k].toNat : Int) ≤ 255 := by omega
      have hpr := Int.mul_nonneg (show (0 : Int) ≤ (k : Int) + 1 by omega) hx0
      have hpr2 := Int.mul_le_mul (show (k : Int) + 1 ≤ 1000000000 by omega) hx1 hx0 (by omega)
      go_wp2_with fail
      go_roundw
      case rel => exact ⟨trivial, k + 1, by omega, by go_num, by rw [HS.out]⟩
      case measure => simp [intOf]; omega
    · obtain rfl : k = s.size := by omega
      have HE := Lib.hid (show (numsOf s).take s.size = numsOf s by rw [← numsOf_length, List.take_length])
      go_wp2_with fail
      go_ret
      exact ⟨by rw [HE.out]; rfl, rfl⟩

set_option maxHeartbeats 1000000 in
theorem ref_shape (A : Option Addr) (c : Nat) (zs : List Int) (w : World) (hl : zs.length ≤ 1000000) (hI : Ints .i64 w A zs) :
    Calls Tryz.prog 58 #[.slice A zs.length c] w fun e w' => e = .returned (.string (strOfNums (Fp.shape zs))) ∧ Below w.heap.size w w' := by
  have HI := Lib.hid hI
  clear hI
  have hu0 : IntKind.u64.wrap (zs.length : Int) = zs.length := IntWalk.u64_in _ (by omega)
  go_enter Tryz.func58, Tryz.ntmps58
  go_wp2_with fail
  refine (ref_big zs.length 1 _ (by omega) (by omega) (by omega)).mono ?_
  rintro e w1 ⟨rfl, h1⟩
  go_wp2_with fail
  go_loopw [3, 4] (fun s i wr => ∃ (k : Nat) (t : ByteArray), k ≤ zs.length ∧ i = .int .i64 k ∧ s = .string t ∧ t = strOfNums (Fp.shapeTo zs k) ∧ t.size ≤ 1 + 2 * k ∧ Below w.heap.size w wr) (fun _ i _ => zs.length - (intOf i).toNat)
  case atStart => exact ⟨0, _, Nat.zero_le _, rfl, rfl, by rw [Fp.shapeTo_zero], by rw [strOfNums_size, Fp.big_length]; omega, h1⟩
  case round =>
    clear h1
    obtain ⟨k, t, hk, rfl, rfl, ht, hts, hbel⟩ := hrel
    have Ht := Lib.hid ht
    clear ht
    by_cases hlt : k < zs.length
    · obtain ⟨b, off, rfl, hb, hc⟩ := HI.out.below hbel (Nat.le_refl _) k hlt
      have hu : IntKind.u64.wrap zs[k] = zs[k] % 18446744073709551616 := IntKind.wrap_u64 _
      have HS := Lib.hid (Fp.shapeTo_succ zs k hlt)
      have HL := Lib.hid (Fp.shapeTo_length zs (k + 1) hlt)
      go_wp2_with fail
      refine (ref_big (zs[k] % 18446744073709551616) 2 _ (by omega) (by omega) (by omega)).mono ?_
      rintro e w2 ⟨rfl, h2⟩
      have hb2 := hbel.trans (h2.mono hbel.size)
      rw [Fp.big_wrap _ _ (by omega)]
      have HT := Lib.hid (show t ++ strOfNums (Fp.big zs[k] 2) = strOfNums (Fp.shapeTo zs (k + 1)) by rw [Ht.out, HS.out, strOfNums_append])
      have HZ := Lib.hid (show (t ++ strOfNums (Fp.big zs[k] 2)).size ≤ 1 + 2 * (k + 1) by rw [HT.out, strOfNums_size, HL.out]; omega)
      have hz : (strOfNums (Fp.big zs[k] 2)).size ≤ 2 := str_size_le (by rw [Fp.big_length]; omega)
      clear h2 hbel
      generalize strOfNums (Fp.big zs[k] 2) = t2 at *
      go_wp2_with fail
      go_roundw
      case rel => exact ⟨k + 1, _, by omega, by go_num, rfl, HT.out, HZ.out, hb2⟩
      case measure => simp [intOf]; omega
    · obtain rfl : k = zs.length := by omega
      rw [Fp.shapeTo_all] at Ht
      go_wp2_with fail
      go_ret
      exact ⟨by rw [← Ht.out]; rfl, hbel⟩

set_option maxHeartbeats 1000000 in
theorem ref_cells (A : Option Addr) (c : Nat) (zs : List Int) (w : World) (hl : zs.length ≤ 1000000) (hI : Ints .i64 w A zs) :
    Calls Tryz.prog 59 #[.slice A zs.length c] w fun e w' => e = .returned (.string (strOfNums (Fp.words zs))) ∧ Below w.heap.size w w' := by
  have HI := Lib.hid hI
  clear hI
  go_enter Tryz.func59, Tryz.ntmps59
  go_wp2_with fail
  go_loopw [3, 4] (fun s i wr => ∃ (k : Nat) (t : ByteArray), k ≤ zs.length ∧ i = .int .i64 k ∧ s = .string t ∧ t = strOfNums (Fp.wordsTo zs k) ∧ t.size ≤ 8 * k ∧ Below w.heap.size w wr) (fun _ i _ => zs.length - (intOf i).toNat)
  case atStart => exact ⟨0, _, Nat.zero_le _, rfl, rfl, by rw [Fp.wordsTo_zero]; rfl, by simp [ByteArray.size], Below.refl _ _⟩
  case round =>
    obtain ⟨k, t, hk, rfl, rfl, ht, hts, hbel⟩ := hrel
    have Ht := Lib.hid ht
    clear ht
    by_cases hlt : k < zs.length
    · obtain ⟨b, off, rfl, hb, hc⟩ := HI.out.below hbel (Nat.le_refl _) k hlt
      have hu : IntKind.u64.wrap zs[k] = zs[k] % 18446744073709551616 := IntKind.wrap_u64 _
      have HS := Lib.hid (Fp.wordsTo_succ zs k hlt)
      have HL := Lib.hid (Fp.wordsTo_length zs (k + 1) hlt)
      go_wp2_with fail
      refine (ref_big (zs[k] % 18446744073709551616) 8 _ (by omega) (by omega) (by omega)).mono ?_
      rintro e w2 ⟨rfl, h2⟩
      have hb2 := hbel.trans (h2.mono hbel.size)
      rw [Fp.big_wrap _ _ (by omega)]
      have HT := Lib.hid (show t ++ strOfNums (Fp.big zs[k] 8) = strOfNums (Fp.wordsTo zs (k + 1)) by rw [Ht.out, HS.out, strOfNums_append])
      have HZ := Lib.hid (show (t ++ strOfNums (Fp.big zs[k] 8)).size ≤ 8 * (k + 1) by rw [HT.out, strOfNums_size, HL.out]; omega)
      have hz : (strOfNums (Fp.big zs[k] 8)).size ≤ 8 := str_size_le (by rw [Fp.big_length]; omega)
      clear h2 hbel
      generalize strOfNums (Fp.big zs[k] 8) = t2 at *
      go_wp2_with fail
      go_roundw
      case rel => exact ⟨k + 1, _, by omega, by go_num, rfl, HT.out, HZ.out, hb2⟩
      case measure => simp [intOf]; omega
    · obtain rfl : k = zs.length := by omega
      rw [Fp.wordsTo_all] at Ht
      go_wp2_with fail
      go_ret
      exact ⟨by rw [← Ht.out]; rfl, hbel⟩
end Go.Proofs.YtkmhagjdafeebaaGreat
/- The document's bytes of what is saved (reference 27): contract. -/
namespace Go.Proofs.YtkmhagjdafeebaaGreat
open Go.RowKit

/-- A slice of slices of numbers. -/
def RowsI (w : World) (A : Option Addr) (ls : List (List Int)) : Prop :=
  ∀ j (hj : j < ls.length), ∃ b off S c, A = some ⟨b, off, none⟩ ∧ b < w.heap.size ∧ w.cell? ⟨b, off + j, none⟩ = some (.slice S ls[j].length c) ∧ Ints .i64 w S ls[j]
theorem RowsI.below {B : Nat} {w w' : World} {A : Option Addr} {ls : List (List Int)} (h : RowsI w A ls) (hb : Below B w w') (hB : w.heap.size ≤ B) : RowsI w' A ls := fun j hj => by
  obtain ⟨b, off, S, c, e, hl, c0, hI⟩ := h j hj
  exact ⟨b, off, S, c, e, Nat.lt_of_lt_of_le hl hb.size, (hb.cell (p := ⟨b, off + j, none⟩) (Nat.lt_of_lt_of_le hl hB)).trans c0, hI.below hb hB⟩
theorem Mets.at_ {w : World} {A : Option Addr} {ms : List Met} (h : Mets w A ms) {j : Nat} (hj : j < ms.length) : ∃ b off, A = some ⟨b, off, none⟩ ∧ b < w.heap.size ∧ ∀ k (hk : k < 6), w.cell? ⟨b, off + j * 6 + k, none⟩ = some (.int .i64 (ms[j].l[k]'(by simpa [Met.l] using hk))) := by
  obtain ⟨b, off, e, hl, c0, c1, c2, c3, c4, c5⟩ := h j hj
  refine ⟨b, off, e, hl, fun k hk => ?_⟩
  match k, hk with
  | 0, _ => exact c0
  | 1, _ => exact c1
  | 2, _ => exact c2
  | 3, _ => exact c3
  | 4, _ => exact c4
  | 5, _ => exact c5

namespace Sav
/-- Small enough to be gone through. -/
def tiny (s : Sav) : Prop := s.p.length ≤ 800 ∧ s.v.length ≤ 800 ∧ s.m.length ≤ 40 ∧ (∀ t ∈ s.p, t.s.length ≤ 800 ∧ t.c.length ≤ 800) ∧ (∀ t ∈ s.v, t.s.length ≤ 800 ∧ t.c.length ≤ 800)
end Sav
namespace Kp
theorem tens_len' {l : List Ten} (h : ∀ t ∈ l, t.s.length ≤ 800 ∧ t.c.length ≤ 800) : (tens l).length ≤ l.length * 8001 := flat_le _ _ _ fun t ht => by
  have := h t ht
  rw [List.length_append, Fp.shape_length, Fp.words_length]
  omega
theorem cells_len' {l : List Ten} (h : ∀ t ∈ l, t.s.length ≤ 800 ∧ t.c.length ≤ 800) : (cells l).length ≤ l.length * 6400 := flat_le _ _ _ fun t ht => by
  have := h t ht
  rw [Fp.words_length]
  omega
theorem small_take {l : List Ten} (h : ∀ t ∈ l, t.s.length ≤ 800 ∧ t.c.length ≤ 800) (k : Nat) : ∀ t ∈ l.take k, t.s.length ≤ 800 ∧ t.c.length ≤ 800 := fun t ht => h t (List.mem_of_mem_take ht)
theorem words_take (l : List Int) (k : Nat) (h : k < l.length) : Fp.words (l.take (k + 1)) = Fp.words (l.take k) ++ Fp.big l[k] 8 := Fp.wordsTo_succ l k h
theorem mets_take' (l : List Met) (k : Nat) (h : k < l.length) : mets (l.take (k + 1)) = mets (l.take k) ++ Fp.words l[k].l := take_flat _ _ _ h
end Kp

set_option maxHeartbeats 4000000 in
set_option maxRecDepth 100000 in
theorem ref27_encode (P V M : Option Addr) (c1 c2 c3 : Nat) (s : Sav) (w : World) (ht : s.tiny) (hP : Tens w P s.p) (hV : RowsI w V (s.v.map (·.c))) (hM : Mets w M s.m) :
    Calls Tryz.prog 29 #[.slice P s.p.length c1, .slice V (s.v.map (·.c)).length c2, .slice M s.m.length c3] w fun e w' => e = .returned (.string (strOfNums (Kp.enc s))) ∧ Below w.heap.size w w' := by
  obtain ⟨ht1, ht2, ht3, ht4, ht5⟩ := ht
  rw [List.length_map]
  have HP := Lib.hid hP
  have HV := Lib.hid hV
  have HM := Lib.hid hM
  have Ht4 := Lib.hid ht4
  have Ht5 := Lib.hid ht5
  clear hP hV hM ht4 ht5
  have hu0 : IntKind.u64.wrap (s.p.length : Int) = s.p.length := IntWalk.u64_in _ (by omega)
  have hu1 : IntKind.u64.wrap (s.m.length : Int) = s.m.length := IntWalk.u64_in _ (by omega)
  go_enter Tryz.func29, Tryz.ntmps29
  go_wp2_with fail
  refine (ref_big s.p.length 2 _ (by omega) (by omega) (by omega)).mono ?_
  rintro e w1 ⟨rfl, h1⟩
  have HT0 := Lib.hid (show (⟨#[65, 84, 72, 83]⟩ : ByteArray) ++ strOfNums (Fp.big s.p.length 2) = strOfNums (Kp.head s ++ Kp.tens (s.p.take 0)) by
    have e : (⟨#[65, 84, 72, 83]⟩ : ByteArray) = strOfNums (Fp.big 1096042579 4) := by decide +kernel
    rw [e, ← strOfNums_append]; simp [Kp.tens, Kp.head])
  have hz0 : (strOfNums (Fp.big s.p.length 2)).size ≤ 2 := str_size_le (by rw [Fp.big_length]; omega)
  generalize strOfNums (Fp.big s.p.length 2) = t0 at *
  go_wp2_with fail
  go_loopw [7, 8] (fun o i wr => ∃ (k : Nat) (t : ByteArray), k ≤ s.p.length ∧ i = .int .i64 k ∧ o = .string t ∧ t = strOfNums (Kp.head s ++ Kp.tens (s.p.take k)) ∧ t.size ≤ 10000000 ∧ Below w.heap.size w wr) (fun _ i _ => s.p.length - (intOf i).toNat)
  case atStart => exact ⟨0, _, Nat.zero_le _, rfl, rfl, HT0.out, by rw [HT0.out, strOfNums_size]; simp [Kp.tens, Kp.head_len], h1⟩
  case round =>
    clear h1 HT0 hz0
    obtain ⟨k, t, hk, rfl, rfl, ht, hts, hbel⟩ := hrel
    have hsz := hbel.size
    have Ht := Lib.hid ht
    clear ht
    by_cases hlt : k < s.p.length
    · obtain ⟨b, off, S, cS, C, dC, rfl, hb, e0, e1, hTR, _, _⟩ := HP.out.below hbel (Nat.le_refl _) k hlt
      have hsm := Ht4.out s.p[k] (List.getElem_mem hlt)
      have hnext := Kp.tens_take s.p k hlt
      have hln := Kp.tens_len' (Kp.small_take Ht4.out (k + 1))
      rw [List.length_take, Nat.min_eq_left (by omega)] at hln
      have k0 : (0 : Int) ≤ k := by omega
      have k1 : (k : Int) < s.p.length := by omega
      have Hnext := Lib.hid hnext
      have Hln := Lib.hid hln
      have HTR := Lib.hid hTR
      clear hnext hln hTR
      generalize s.p[k] = x at *
      obtain ⟨hx1, hx2⟩ := hsm
      have hbd : Below wr.heap.size wr wr.drew := (Below.refl _ _).drew
      have y1 := str_size_le (Nat.le_of_eq (Fp.shape_length x.s))
      have y2 := str_size_le (Nat.le_of_eq (Fp.words_length x.c))
      have hc1 : ¬ 9223372036854775807 < (strOfNums (Fp.shape x.s)).size + (strOfNums (Fp.words x.c)).size := by omega
      have hc2 : ¬ 9223372036854775807 < t.size + ((strOfNums (Fp.shape x.s)).size + (strOfNums (Fp.words x.c)).size) := by omega
      go_wp2_with fail
      go_region_held3 (fun w' => w'.cell? ⟨b, off + k * 2, none⟩ = some (.slice S x.s.length cS) ∧ w'.cell? ⟨b, off + k * 2 + 1, none⟩ = some (.slice C x.c.length dC)) (go_keep)
        (first
          | (go_at_call 58; refine (ref_shape S cS x.s _ (by omega) (HTR.out.1.below hbd (Nat.le_refl _))).mono ?_; rintro e w2 ⟨rfl, h2⟩; have hb2 : Below wr.heap.size wr w2 := hbd.trans h2; have z0 := (hb2.cell (p := ⟨b, off + k * 2, none⟩) hb).trans e0; have z1 := (hb2.cell (p := ⟨b, off + k * 2 + 1, none⟩) hb).trans e1)
          | (go_at_call 59; refine (ref_cells C dC x.c _ (by omega) (HTR.out.2.below hb2 (Nat.le_refl _))).mono ?_; rintro e w3 ⟨rfl, h3⟩; have hb3 : Below wr.heap.size wr w3 := hb2.trans (h3.mono hb2.size); have z2 := (hb3.cell (p := ⟨b, off + k * 2, none⟩) hb).trans e0; have z3 := (hb3.cell (p := ⟨b, off + k * 2 + 1, none⟩) hb).trans e1))
      have hb4 := hbel.trans (hb3.mono hsz)
      have HT := Lib.hid (show t ++ (strOfNums (Fp.shape x.s) ++ strOfNums (Fp.words x.c)) = strOfNums (Kp.head s ++ Kp.tens (s.p.take (k + 1))) by rw [Ht.out, Hnext.out]; simp only [strOfNums_append, ByteArray.append_assoc])
      have HZ := Lib.hid (show (t ++ (strOfNums (Fp.shape x.s) ++ strOfNums (Fp.words x.c))).size ≤ 10000000 by rw [HT.out, strOfNums_size, List.length_append, Kp.head_len]; have := Hln.out; omega)
      clear z0 z1 z2 z3 e0 e1 hb2 hb3 h2 h3 hbel hc1 hc2 y1 y2
      generalize t ++ (strOfNums (Fp.shape x.s) ++ strOfNums (Fp.words x.c)) = t2 at *
      go_wp2_with fail
      go_roundw
      case rel => exact ⟨k + 1, t2, by omega, by go_num, rfl, HT.out, HZ.out, hb4⟩
      case measure => simp [intOf]; omega
    · obtain rfl : k = s.p.length := by omega
      rw [List.take_length] at Ht
      have HT1 := Lib.hid (show t = strOfNums (Kp.head s ++ Kp.tens s.p ++ Kp.cells (s.v.take 0)) by rw [Ht.out]; simp [Kp.cells])
      have hlp := Kp.tens_len' Ht4.out
      clear Ht
      go_wp2_with fail
      go_loopw [7, 9] (fun o i wr => ∃ (k : Nat) (t : ByteArray), k ≤ s.v.length ∧ i = .int .i64 k ∧ o = .string t ∧ t = strOfNums (Kp.head s ++ Kp.tens s.p ++ Kp.cells (s.v.take k)) ∧ t.size ≤ 20000000 ∧ Below w.heap.size w wr) (fun _ i _ => s.v.length - (intOf i).toNat)
      case atStart => exact ⟨0, t, Nat.zero_le _, rfl, rfl, HT1.out, by omega, hbel⟩
      case round =>
        clear HT1 hts hbel hsz
        obtain ⟨wo, rfl⟩ : ∃ wo : World, wo = wr := ⟨_, rfl⟩
        obtain ⟨k, t, hk, rfl, rfl, ht, hts, hbel⟩ := hrel
        have hsz := hbel.size
        have Ht := Lib.hid ht
        clear ht
        by_cases hlt : k < s.v.length
        · obtain ⟨b, off, S, cS, rfl, hb, e0, hI⟩ := HV.out.below hbel (Nat.le_refl _) k (by rw [List.length_map]; exact hlt)
          rw [List.getElem_map] at e0 hI
          have hsm := Ht5.out s.v[k] (List.getElem_mem hlt)
          have hnext := Kp.cells_take s.v k hlt
          have hln := Kp.cells_len' (Kp.small_take Ht5.out (k + 1))
          rw [List.length_take, Nat.min_eq_left (by omega)] at hln
          have Hnext := Lib.hid hnext
          have Hln := Lib.hid hln
          have HI := Lib.hid hI
          clear hnext hln hI
          generalize s.v[k] = x at *
          obtain ⟨hx1, hx2⟩ := hsm
          go_wp2_with fail
          refine (ref_cells S cS x.c _ (by omega) HI.out).mono ?_
          rintro e w2 ⟨rfl, h2⟩
          have hb2 := hbel.trans (h2.mono hsz)
          have y2 := str_size_le (Nat.le_of_eq (Fp.words_length x.c))
          have HT := Lib.hid (show t ++ strOfNums (Fp.words x.c) = strOfNums (Kp.head s ++ Kp.tens s.p ++ Kp.cells (s.v.take (k + 1))) by rw [Ht.out, Hnext.out]; simp only [strOfNums_append, ByteArray.append_assoc])
          have HZ := Lib.hid (show (t ++ strOfNums (Fp.words x.c)).size ≤ 20000000 by rw [HT.out, strOfNums_size, List.length_append, List.length_append, Kp.head_len]; have := Hln.out; omega)
          generalize strOfNums (Fp.words x.c) = t2 at *
          clear h2 hbel e0
          go_wp2_with fail
          go_roundw
          case rel => exact ⟨k + 1, _, by omega, by go_num, rfl, HT.out, HZ.out, hb2⟩
          case measure => simp [intOf]; omega
        · obtain rfl : k = s.v.length := by omega
          rw [List.take_length] at Ht
          go_wp2_with fail
          refine (ref_big s.m.length 2 _ (by omega) (by omega) (by omega)).mono ?_
          rintro e w2 ⟨rfl, h2⟩
          have hb2 := hbel.trans (h2.mono hsz)
          have HT := Lib.hid (show t ++ strOfNums (Fp.big s.m.length 2) = strOfNums (Kp.head s ++ Kp.tens s.p ++ Kp.cells s.v ++ Fp.big s.m.length 2 ++ Kp.mets (s.m.take 0)) by rw [Ht.out]; simp [Kp.mets, strOfNums_append, ByteArray.append_assoc])
          have hz2 : (strOfNums (Fp.big s.m.length 2)).size ≤ 2 := str_size_le (by rw [Fp.big_length]; omega)
          have HZ := Lib.hid (show (t ++ strOfNums (Fp.big s.m.length 2)).size ≤ 30000000 by rw [ByteArray.size_append]; omega)
          generalize strOfNums (Fp.big s.m.length 2) = t2 at *
          have hlv := Kp.cells_len' Ht5.out
          clear h2 hbel
          go_wp2_with fail
          go_loopw [7, 10, 11] (fun o i _ wr => ∃ (k : Nat) (t : ByteArray), k ≤ s.m.length ∧ i = .int .i64 k ∧ o = .string t ∧ t = strOfNums (Kp.head s ++ Kp.tens s.p ++ Kp.cells s.v ++ Fp.big s.m.length 2 ++ Kp.mets (s.m.take k)) ∧ t.size ≤ 30000000 ∧ Below w.heap.size w wr) (fun _ i _ _ => s.m.length - (intOf i).toNat)
          case atStart => exact ⟨0, _, Nat.zero_le _, rfl, rfl, HT.out, HZ.out, hb2⟩
          case round =>
            clear HT HZ hts hb2 hsz Ht hz2
            obtain ⟨wp, rfl⟩ : ∃ wp : World, wp = wr := ⟨_, rfl⟩
            obtain ⟨k, t, hk, rfl, rfl, ht, hts, hbel⟩ := hrel
            have hsz := hbel.size
            have Ht := Lib.hid ht
            clear ht
            by_cases hlt : k < s.m.length
            · have hnext := Kp.mets_take' s.m k hlt
              have hln := Kp.mets_len (s.m.take (k + 1))
              rw [List.length_take, Nat.min_eq_left (by omega)] at hln
              have Hnext := Lib.hid hnext
              have Hln := Lib.hid hln
              clear hnext hln
              have HT3 := Lib.hid (show t = strOfNums (Kp.head s ++ Kp.tens s.p ++ Kp.cells s.v ++ Fp.big s.m.length 2 ++ Kp.mets (s.m.take k) ++ Fp.words (s.m[k].l.take 0)) by rw [Ht.out]; simp [Fp.words])
              go_wp2_with fail
              go_loopw [7, 11] (fun o j wr => ∃ (q : Nat) (t : ByteArray), q ≤ 6 ∧ j = .int .i64 q ∧ o = .string t ∧ t = strOfNums (Kp.head s ++ Kp.tens s.p ++ Kp.cells s.v ++ Fp.big s.m.length 2 ++ Kp.mets (s.m.take k) ++ Fp.words (s.m[k].l.take q)) ∧ t.size ≤ 30000100 ∧ Below w.heap.size w wr) (fun _ j _ => 6 - (intOf j).toNat)
              case atStart => exact ⟨0, t, Nat.zero_le _, rfl, rfl, HT3.out, by omega, hbel⟩
              case round =>
                clear HT3 hbel hts
                obtain ⟨wq, rfl⟩ : ∃ wq : World, wq = wr := ⟨_, rfl⟩
                obtain ⟨q, t, hq, rfl, rfl, ht, hts, hbel⟩ := hrel
                have hsz := hbel.size
                have Ht := Lib.hid ht
                clear ht
                by_cases hlq : q < 6
                · obtain ⟨b, off, rfl, hb, hcell⟩ := (HM.out.below hbel (Nat.le_refl _)).at_ hlt
                  have e0 := hcell q hlq
                  have hw := Kp.words_take s.m[k].l q (by simpa [Met.l] using hlq)
                  have hln2 := Kp.mets_len (s.m.take k)
                  rw [List.length_take, Nat.min_eq_left (by omega)] at hln2
                  have hln3 : (Fp.words (s.m[k].l.take (q + 1))).length ≤ 48 := by rw [Fp.words_length, List.length_take]; have : s.m[k].l.length = 6 := rfl; omega
                  have Hw := Lib.hid hw
                  have Hln2 := Lib.hid hln2
                  have Hln3 := Lib.hid hln3
                  clear hw hln2 hln3
                  clear hcell
                  generalize s.m[k].l[q] = x at *
                  have hu : IntKind.u64.wrap x = x % 18446744073709551616 := IntKind.wrap_u64 _
                  have q6 : (q : Int) < 6 := by omega
                  have q0 : (0 : Int) ≤ q := by omega
                  go_wp2_with fail
                  refine (ref_big (x % 18446744073709551616) 8 _ (by omega) (by omega) (by omega)).mono ?_
                  rintro e w2 ⟨rfl, h2⟩
                  have hb2 := hbel.trans (h2.mono hsz)
                  rw [Fp.big_wrap _ _ (by omega)]
                  have HT := Lib.hid (show t ++ strOfNums (Fp.big x 8) = strOfNums (Kp.head s ++ Kp.tens s.p ++ Kp.cells s.v ++ Fp.big s.m.length 2 ++ Kp.mets (s.m.take k) ++ Fp.words (s.m[k].l.take (q + 1))) by rw [Ht.out, Hw.out]; simp only [strOfNums_append, ByteArray.append_assoc])
                  have HZ := Lib.hid (show (t ++ strOfNums (Fp.big x 8)).size ≤ 30000100 by rw [HT.out, strOfNums_size]; simp only [List.length_append, Kp.head_len, Fp.big_length]; have := Hln2.out; have := Hln3.out; omega)
                  have hz2 : (strOfNums (Fp.big x 8)).size ≤ 8 := str_size_le (by rw [Fp.big_length]; omega)
                  generalize strOfNums (Fp.big x 8) = t2 at *
                  clear h2 hbel e0
                  go_wp2_with fail
                  go_roundw
                  case rel => exact ⟨q + 1, _, by omega, by go_num, rfl, HT.out, HZ.out, hb2⟩
                  case measure => simp [intOf]; omega
                · obtain rfl : q = 6 := by omega
                  have HT := Lib.hid (show t = strOfNums (Kp.head s ++ Kp.tens s.p ++ Kp.cells s.v ++ Fp.big s.m.length 2 ++ Kp.mets (s.m.take (k + 1))) by rw [Ht.out, Hnext.out]; rw [show s.m[k].l.take 6 = s.m[k].l from rfl]; simp only [List.append_assoc])
                  have HZ := Lib.hid (show t.size ≤ 30000000 by rw [HT.out, strOfNums_size]; simp only [List.length_append, Kp.head_len, Fp.big_length]; have := Hln.out; omega)
                  go_wp2_with fail
                  go_roundw
                  case rel => exact ⟨k + 1, t, by omega, by go_num, rfl, HT.out, HZ.out, hbel⟩
                  case measure => simp [intOf]; omega
            · obtain rfl : k = s.m.length := by omega
              rw [List.take_length] at Ht
              have HB := Lib.hid (show t = strOfNums (Kp.body s) from Ht.out)
              have HN := Lib.hid (show numsOf t = Kp.body s by rw [HB.out, numsOf_str (Kp.body_byte s)])
              have hsr := Fp.sum_range (numsOf t)
              obtain ⟨hs0, hs1⟩ := hsr
              go_wp2_with fail
              refine (ref_sum t _ (by omega)).mono ?_
              rintro e w2 ⟨rfl, rfl⟩
              go_wp2_with fail
              refine (ref_big (Fp.sum (numsOf t)) 4 _ hs0 (by omega) (by omega)).mono ?_
              rintro e w3 ⟨rfl, h3⟩
              have hb3 := hbel.trans (h3.mono hsz)
              have HT := Lib.hid (show t ++ strOfNums (Fp.big (Fp.sum (numsOf t)) 4) = strOfNums (Kp.enc s) by rw [HN.out, HB.out, Kp.enc, strOfNums_append])
              have hz2 : (strOfNums (Fp.big (Fp.sum (numsOf t)) 4)).size ≤ 4 := str_size_le (by rw [Fp.big_length]; omega)
              generalize strOfNums (Fp.big (Fp.sum (numsOf t)) 4) = t2 at *
              clear h3 hbel
              go_wp2_with fail
              go_ret
              exact ⟨by rw [← HT.out]; rfl, hb3⟩
end Go.Proofs.YtkmhagjdafeebaaGreat
/- The law's own helpers of layer 27: cells, size, small, sealed: contracts. -/
namespace Go.Proofs.YtkmhagjdafeebaaGreat
open Go.RowKit

theorem wrap_add (a b : Int) : wrap64 (a + wrap64 b) = wrap64 (a + b) := by unfold wrap64; omega
theorem wrap_add' (a b : Int) : wrap64 (wrap64 a + b) = wrap64 (a + b) := by unfold wrap64; omega
theorem wrapk_in (a : Int) (h0 : -9223372036854775808 ≤ a) (h1 : a ≤ 9223372036854775807) : wrap64 a = a := by unfold wrap64; omega

namespace Lw
/-- How large tensors are, as the law counts it. -/
def raw (l : List Ten) : Int := (l.map fun t => 1 + (t.s.length : Int) + (t.c.length : Int)).sum
def sz (l : List Ten) : Int := wrap64 (raw l)
def small (s : Sav) : Bool := decide (wrap64 (sz s.p + sz s.v) ≤ 800) && decide (s.m.length ≤ 40)
theorem raw_take (l : List Ten) (k : Nat) (h : k < l.length) : raw (l.take (k + 1)) = raw (l.take k) + (1 + (l[k].s.length : Int) + (l[k].c.length : Int)) := by
  unfold raw
  rw [List.take_succ_eq_append_getElem h, List.map_append, List.sum_append]; simp
theorem sz_take (l : List Ten) (k : Nat) (h : k < l.length) : sz (l.take (k + 1)) = wrap64 (sz (l.take k) + wrap64 (wrap64 (1 + (l[k].s.length : Int)) + (l[k].c.length : Int))) := by
  unfold sz
  rw [raw_take _ _ h]
  unfold wrap64
  omega
end Lw

set_option maxHeartbeats 1000000 in
theorem law_size (A : Option Addr) (c : Nat) (ts : List Ten) (w : World) (hl : ts.length ≤ 9223372036854775807) (hT : Tens w A ts) :
    Calls Tryz.prog 5 #[.slice A ts.length c] w fun e w' => e = .returned (.int .i64 (Lw.sz ts)) ∧ Below w.heap.size w w' := by
  have HT := Lib.hid hT
  clear hT
  go_enter Tryz.func5, Tryz.ntmps5
  go_wp2_with fail
  go_loopw [3, 5, 8] (fun n _ i wr => ∃ k : Nat, k ≤ ts.length ∧ i = .int .i64 k ∧ n = .int .i64 (Lw.sz (ts.take k)) ∧ Below w.heap.size w wr) (fun _ _ i _ => ts.length - (intOf i).toNat)
  case atStart => exact ⟨0, Nat.zero_le _, rfl, by simp [Lw.sz, Lw.raw, wrap64], Below.refl _ _⟩
  case round =>
    obtain ⟨k, hk, rfl, rfl, hbel⟩ := hrel
    by_cases hlt : k < ts.length
    · obtain ⟨b, off, S, cS, C, dC, rfl, hb, c0, c1, hTR, hs1, hs2⟩ := HT.out.below hbel (Nat.le_refl _) k hlt
      have hb1 := hbel.alloc hbel.size (.cells #[.slice S ts[k].s.length cS, .slice C ts[k].c.length dC] 26)
      have hst := Lw.sz_take ts k hlt
      have HTR := Lib.hid hTR
      have Hst := Lib.hid hst
      clear hTR hst
      generalize ts[k] = t at *
      generalize Lw.sz (ts.take k) = z at *
      go_wp2_with fail
      go_roundw
      case rel => exact ⟨k + 1, by omega, by go_num, by rw [Hst.out], hb1⟩
      case measure => simp [intOf]; omega
    · obtain rfl : k = ts.length := by omega
      rw [List.take_length]
      go_wp2_with fail
      go_ret
      exact ⟨rfl, hbel⟩

namespace Lw
theorem raw_nonneg (l : List Ten) : 0 ≤ raw l := by
  induction l with
  | nil => simp [raw]
  | cons t r ih => simp only [raw, List.map_cons, List.sum_cons] at ih ⊢; omega
theorem raw_le {l : List Ten} (h : l.all Tn.right = true) : raw l ≤ (l.length : Int) * 65541 := by
  induction l with
  | nil => simp [raw]
  | cons t r ih =>
    simp only [List.all_cons, Bool.and_eq_true] at h
    have h1 := Tn.right_len h.1
    have h2 := ih h.2
    simp only [raw, List.map_cons, List.sum_cons, List.length_cons] at h2 ⊢
    omega
theorem raw_ge (l : List Ten) : (l.length : Int) ≤ raw l := by
  induction l with
  | nil => simp [raw]
  | cons t r ih => simp only [raw, List.map_cons, List.sum_cons, List.length_cons] at ih ⊢; omega
theorem raw_mem {l : List Ten} {t : Ten} (h : t ∈ l) : 1 + (t.s.length : Int) + (t.c.length : Int) ≤ raw l := by
  induction l with
  | nil => cases h
  | cons u r ih =>
    have h2 := raw_nonneg r
    simp only [raw, List.map_cons, List.sum_cons] at ih h2 ⊢
    rcases List.mem_cons.1 h with rfl | h
    · omega
    · have := ih h; omega
/-- What the law calls small is small, if it is right. -/
theorem small_tiny {s : Sav} (h : small s = true) (ha : Tn.alike s.p s.v = true) (hp : s.p.length ≤ 3000000000000) : s.tiny := by
  simp only [small, Bool.and_eq_true, decide_eq_true_eq] at h
  obtain ⟨h1, h2⟩ := h
  obtain ⟨hl, hr, hv, _⟩ := Kp.alike_all ha
  have p1 := raw_le hr
  have p2 := raw_nonneg s.p
  have p3 := raw_ge s.p
  have v1 := raw_le hv
  have v2 := raw_nonneg s.v
  have v3 := raw_ge s.v
  unfold sz at h1
  rw [wrapk_in (raw s.p) (by omega) (by omega), wrapk_in (raw s.v) (by omega) (by omega), wrapk_in _ (by omega) (by omega)] at h1
  refine ⟨by omega, by omega, h2, fun t ht => ?_, fun t ht => ?_⟩
  · have := raw_mem ht; omega
  · have := raw_mem ht; omega
end Lw

set_option maxHeartbeats 1000000 in
theorem law_small (P V M : Option Addr) (c1 c2 c3 : Nat) (s : Sav) (w : World) (hp : s.p.length ≤ 9223372036854775807) (hv : s.v.length ≤ 9223372036854775807) (hS : SavR w P V M s) :
    Calls Tryz.prog 4 #[.agg #[.slice P s.p.length c1, .slice V s.v.length c2, .slice M s.m.length c3]] w fun e w' => e = .returned (.bool (Lw.small s)) ∧ Below w.heap.size w w' := by
  have hk0 := Blk.new w 32 #[.slice P s.p.length c1, .slice V s.v.length c2, .slice M s.m.length c3]
  have hb0 : Below w.heap.size w (w.alloc (.cells #[.slice P s.p.length c1, .slice V s.v.length c2, .slice M s.m.length c3] 32)).drew := ((Below.refl _ _).alloc (Nat.le_refl _) _).drew
  have HP := Lib.hid (hS.1.below hb0 (Nat.le_refl _))
  have HV := Lib.hid (hS.2.1)
  have hsP := fun W h => law_size P c1 s.p W hp h
  have hsV := fun W h => law_size V c2 s.v W hv h
  have HSm := Lib.hid (show Lw.small s = (decide (wrap64 (Lw.sz s.p + Lw.sz s.v) ≤ 800) && decide ((s.m.length : Int) ≤ 40)) by unfold Lw.small; congr 1; simp; omega)
  have HsP := Lib.hid hsP
  have HsV := Lib.hid hsV
  have Hk0 := Lib.hid hk0
  clear hsP hsV hk0
  clear hS
  generalize Lw.sz s.p = a at *
  generalize Lw.sz s.v = b at *
  obtain ⟨z, hz⟩ : ∃ z, wrap64 (a + b) = z := ⟨_, rfl⟩
  rw [hz] at HSm
  have hwr : IntKind.i64.wrap (a + b) = z := (IntWalk.i64_left _).trans hz
  by_cases hz8 : z ≤ 800
  · go_enter Tryz.func4, Tryz.ntmps4
    go_wp2_with fail
    go_region_held3 (fun w' => w'.cell? ⟨w.heap.size, 0, none⟩ = some (.slice P s.p.length c1) ∧ w'.cell? ⟨w.heap.size, 1, none⟩ = some (.slice V s.v.length c2) ∧ w'.cell? ⟨w.heap.size, 2, none⟩ = some (.slice M s.m.length c3)) (go_keep) (first
      | (go_at_call_of 5 (Value.slice P s.p.length c1); refine (HsP.out _ HP.out).mono ?_; rintro e w2 ⟨rfl, h2⟩; have hz0 := (Hk0.out.drew.below h2 Hk0.out.lt).cell 0; have hz1 := (Hk0.out.drew.below h2 Hk0.out.lt).cell 1; have hz2 := (Hk0.out.drew.below h2 Hk0.out.lt).cell 2; simp at hz0 hz1 hz2; have hb2 := hb0.trans (h2.mono hb0.size))
      | (go_at_call_of 5 (Value.slice V s.v.length c2); refine (HsV.out _ (HV.out.below hb2 (Nat.le_refl _))).mono ?_; rintro e w3 ⟨rfl, h3⟩; have hb3 := hb2.trans (h3.mono hb2.size); have hy0 := ((Hk0.out.drew.below h2 Hk0.out.lt).below h3 (Hk0.out.drew.below h2 Hk0.out.lt).lt).cell 0; have hy1 := ((Hk0.out.drew.below h2 Hk0.out.lt).below h3 (Hk0.out.drew.below h2 Hk0.out.lt).lt).cell 1; have hy2 := ((Hk0.out.drew.below h2 Hk0.out.lt).below h3 (Hk0.out.drew.below h2 Hk0.out.lt).lt).cell 2; simp at hy0 hy1 hy2))
    go_wp2_with fail
    go_ret
    exact ⟨by rw [HSm.out]; simp [hz8], hb3⟩
  · have hd : decide (z ≤ 800) = false := by simp; omega
    go_enter Tryz.func4, Tryz.ntmps4
    go_wp2_with fail
    first | (go_region_with (first
      | (go_at_call_of 5 (Value.slice P s.p.length c1); refine (HsP.out _ HP.out).mono ?_; rintro e w2 ⟨rfl, h2⟩; have hz2 := (Hk0.out.drew.below h2 Hk0.out.lt).cell 1; simp at hz2; have hb2 := hb0.trans (h2.mono hb0.size))
      | (go_at_call_of 5 (Value.slice V s.v.length c2); refine (HsV.out _ (HV.out.below hb2 (Nat.le_refl _))).mono ?_; rintro e w3 ⟨rfl, h3⟩; have hb3 := hb2.trans (h3.mono hb2.size)))) | skip
    all_goals
      go_wp2_with fail
      go_ret
      exact ⟨by rw [HSm.out, hd]; rfl, hb3⟩

theorem bytesWorld_ints (w : World) (e : TypeId) (s : ByteArray) : Ints .u8 (Lib.bytesWorld w e s) (some ⟨w.heap.size, 0, none⟩) (numsOf s) := Ints.of_row fun j hj => by
  rw [numsOf_length] at hj
  rw [Nat.zero_add, Lib.bytesWorld_cell w e s j hj]
  have : j < s.data.toList.length := by simpa using hj
  simp [numsOf, List.getD, hj]
theorem bytesWorld_below (w : World) (e : TypeId) (s : ByteArray) : Below w.heap.size w (Lib.bytesWorld w e s) :=
  ⟨rfl, rfl, rfl, by rw [Lib.bytesWorld_size]; omega, fun k hk => Lib.bytesWorld_at_old w e s k hk⟩
end Go.Proofs.YtkmhagjdafeebaaGreat
/- The law's own bytes of layer 27: contracts. -/
namespace Go.Proofs.YtkmhagjdafeebaaGreat
open Go.RowKit

theorem reft_info : (Tryz.prog.info? 94).map (fun i => (i.zero, i.size, i.bytes)) = some (some (.agg #[.slice none 0 0, .slice none 0 0]), 2, 48) := by kernel_rfl
theorem row64_info : (Tryz.prog.info? 91).map (fun i => (i.zero, i.size, i.bytes)) = some (some (.slice none 0 0), 1, 24) := by kernel_rfl
theorem six_info : (Tryz.prog.info? 95).map (fun i => (i.zero, i.size, i.bytes)) = some (some (.agg #[.int .i64 0, .int .i64 0, .int .i64 0, .int .i64 0, .int .i64 0, .int .i64 0]), 6, 48) := by kernel_rfl

/-- A new row of numbers. -/
def NewI (t : TypeId) (zs : List Int) (w : World) (e : Ending) (w' : World) : Prop :=
  ∃ A c, e = .returned (.slice A zs.length c) ∧ w'.ownsRow w.heap.size t 1 (.slice A zs.length c) zs.length (zs.map (Value.int .i64)) ∧ Below w.heap.size w w'

set_option maxHeartbeats 1000000 in
theorem law_cells (S C : Option Addr) (c d : Nat) (t : Ten) (w : World) (hl : t.c.length ≤ 1000000) (hI : Ints .i64 w C t.c) :
    Calls Tryz.prog 28 #[.agg #[.slice S t.s.length c, .slice C t.c.length d]] w (NewI 2 t.c w) := by
  obtain ⟨i0, hi, hz0, hz1, hz2⟩ := info_parts i64_info
  have hb0 : Below w.heap.size w (w.alloc (.cells #[.slice S t.s.length c, .slice C t.c.length d] 26)) := (Below.refl _ _).alloc (Nat.le_refl _) _
  have HI := Lib.hid hI
  clear hI
  go_enter Tryz.func28, Tryz.ntmps28
  go_wp2_with fail
  go_loopw [3, 5, 9] (fun v _ i wr => ∃ k : Nat, k ≤ t.c.length ∧ i = .int .i64 k ∧ wr.ownsRow w.heap.size 2 1 v (t.c.take k).length ((t.c.take k).map (Value.int .i64)) ∧ Below w.heap.size w wr) (fun _ _ i _ => t.c.length - (intOf i).toNat)
  case atStart => exact ⟨0, Nat.zero_le _, rfl, World.ownsRow_nil _ _ _ _, hb0⟩
  case round =>
    clear hb0
    obtain ⟨k, hk, rfl, hown, hbel⟩ := hrel
    have hsz := hbel.size
    by_cases hlt : k < t.c.length
    · obtain ⟨b, off, rfl, hb, hc⟩ := HI.out.below hbel (Nat.le_refl _) k hlt
      have hnext := List.take_succ_eq_append_getElem hlt
      have hkl : (t.c.take k).length = k := by rw [List.length_take]; omega
      have hown2 := hown.alloc (.cells #[.int .i64 t.c[k]] 2)
      have hgd : t.c.getD k 0 = t.c[k] := by simp [hlt]
      rw [hgd] at hc
      have Hnext := Lib.hid hnext
      have Hgd := Lib.hid hgd
      have Hkl := Lib.hid hkl
      clear hnext hgd hkl
      generalize t.c[k] = x at *
      go_wp2_with (at_builtin; refine wpList_append_own _ rfl _ _ 91 rfl w.heap.size 2 i0 (.int .i64 0) 1 8 Tryz.underlying91 hi hz0 hz1 hz2 rfl (by decide) _ _ _ rfl hown2 ⟨wr.heap.size, 0, none⟩ 1 1 [.int .i64 x] rfl rfl ?c1 ?c2 ?c3 ?c4 ?c5 ?_)
      case c1 => exact one_new _ _ _
      case c2 => intro u hu; simp at hu; subst hu; rfl
      case c3 => unfold maxLen; have := Hkl.out; omega
      case c4 => have := Hkl.out; omega
      case c5 => simp; omega
      intro v' w3 hown3 hgrow _
      have hb3 : Below w.heap.size w w3 := (hbel.alloc hsz _).grown hgrow (by simp; omega) (fun g hg => (hown.lt g hg).1)
      have HO := Lib.hid (show w3.ownsRow w.heap.size 2 1 v' (t.c.take (k + 1)).length ((t.c.take (k + 1)).map (Value.int .i64)) by
        rw [Hnext.out, List.length_append, Hkl.out, List.map_append, List.map_take]
        exact hown3)
      clear hown3 hgrow hown hown2 hbel hc
      go_wp2_with fail
      go_roundw
      case rel => exact ⟨k + 1, by omega, by go_num, HO.out, hb3⟩
      case measure => simp [intOf]; omega
    · obtain rfl : k = t.c.length := by omega
      rw [List.take_length] at hown
      obtain ⟨A, cc, rfl, _, _⟩ := Ints.of_own hown
      have Hown := Lib.hid hown
      clear hown
      go_wp2_with fail
      go_ret
      exact ⟨A, cc, rfl, Hown.out, hbel⟩

/-- A tensor, its shape as it lies, its cells anew. -/
abbrev RefA := Ten × (Option Addr × Nat) × (Option Addr × Nat)
def RefA.cells (x : RefA) : List Value := [.slice x.2.1.1 x.1.s.length x.2.1.2, .slice x.2.2.1 x.1.c.length x.2.2.2]
def RefA.ok (x : RefA) (w : World) : Prop := Ints .i64 w x.2.2.1 x.1.c
abbrev RowA := List Int × (Option Addr × Nat)
def RowA.cells (x : RowA) : List Value := [.slice x.2.1 x.1.length x.2.2]
def RowA.ok (x : RowA) (w : World) : Prop := Ints .i64 w x.2.1 x.1
def metCells (m : Met) : List Value := [.int .i64 m.a, .int .i64 m.b, .int .i64 m.c, .int .i64 m.d, .int .i64 m.e, .int .i64 m.f]
theorem RefA.len (x : RefA) : x.cells.length = 2 := rfl
theorem RowA.len (x : RowA) : x.cells.length = 1 := rfl
theorem metCells_len (m : Met) : (metCells m).length = 6 := rfl

/-- What a row of the call's own holds, on its own block. -/
theorem own_on {w : World} {B : Nat} {e : TypeId} {A : Option Addr} {c : Nat} {zs : List Int} (h : w.ownsRow B e 1 (.slice A zs.length c) zs.length (zs.map (Value.int .i64))) : On (fun b => ∃ a, A = some a ∧ b = a.block) w (fun w => Ints .i64 w A zs) := fun w' hw => by
  have h' : w'.ownsRow B e 1 (.slice A zs.length c) zs.length (zs.map (Value.int .i64)) := ownsRow_heap h fun g hg => by
    cases A with
    | none => simp [Value.ownBlock] at hg
    | some a => simp [Value.ownBlock] at hg; exact hw g ⟨a, rfl, hg.symm⟩
  obtain ⟨A', c', hv, _, hI⟩ := Ints.of_own h'
  injection hv with hA
  subst hA
  exact hI

theorem refs_tens {B C : Nat} {w : World} {e : TypeId} {A : Option Addr} {cap : Nat} {L : List RefA} (h : OwnRow B C w e 2 (.slice A L.length cap) RefA.cells RefA.ok L) (ho : ∀ x ∈ L, Ints .i64 w x.2.1.1 x.1.s) (hs : ∀ x ∈ L, x.1.s.length ≤ 1000000 ∧ x.1.c.length ≤ 1000000) : Tens w A (L.map (·.1)) := fun j hj => by
  rw [List.length_map] at hj
  obtain ⟨b, cap', hv', _, _, _, hc⟩ := OwnRow.at_ h RefA.len hj
  injection hv' with hA
  have h0 := hc 0 (by omega)
  have h1 := hc 1 (by omega)
  have hk := h.now L[j] (List.getElem_mem hj)
  have hl := hs L[j] (List.getElem_mem hj)
  rw [List.getElem_map]
  exact ⟨b, 0, _, _, _, _, hA, World.block_lt_of_cell? _ _ h0, by rw [Nat.zero_add]; exact h0, by rw [Nat.zero_add]; exact h1, ⟨ho _ (List.getElem_mem hj), hk⟩, by omega, by omega⟩
theorem rows_rowsI {B C : Nat} {w : World} {e : TypeId} {A : Option Addr} {cap : Nat} {L : List RowA} (h : OwnRow B C w e 1 (.slice A L.length cap) RowA.cells RowA.ok L) : RowsI w A (L.map (·.1)) := fun j hj => by
  rw [List.length_map] at hj
  obtain ⟨b, cap', hv', _, _, _, hc⟩ := OwnRow.at_ h RowA.len hj
  injection hv' with hA
  have h0 := hc 0 (by omega)
  have hk := h.now L[j] (List.getElem_mem hj)
  rw [List.getElem_map]
  exact ⟨b, 0, _, _, hA, World.block_lt_of_cell? _ _ h0, by rw [Nat.zero_add]; rw [Nat.mul_one, Nat.add_zero] at h0; exact h0, hk⟩
theorem mets_of {B C : Nat} {w : World} {e : TypeId} {A : Option Addr} {cap : Nat} {L : List Met} (h : OwnRow B C w e 6 (.slice A L.length cap) metCells (fun _ _ => True) L) : Mets w A L := fun j hj => by
  obtain ⟨b, cap', hv', _, _, _, hc⟩ := OwnRow.at_ h metCells_len hj
  injection hv' with hA
  have h0 := hc 0 (by omega)
  refine ⟨b, 0, hA, World.block_lt_of_cell? _ _ h0, ?_, ?_, ?_, ?_, ?_, ?_⟩
  all_goals rw [Nat.zero_add]
  · exact h0
  · exact hc 1 (by omega)
  · exact hc 2 (by omega)
  · exact hc 3 (by omega)
  · exact hc 4 (by omega)
  · exact hc 5 (by omega)

set_option maxHeartbeats 4000000 in
set_option maxRecDepth 100000 in
theorem law_bytes (P V M : Option Addr) (c1 c2 c3 : Nat) (s : Sav) (w : World) (ht : s.tiny) (hS : SavR w P V M s) :
    Calls Tryz.prog 11 #[.agg #[.slice P s.p.length c1, .slice V s.v.length c2, .slice M s.m.length c3]] w fun e w' => e = .returned (.string (strOfNums (Kp.enc s))) ∧ Below w.heap.size w w' := by
  obtain ⟨ip, hip, hp0, hp1, hp2⟩ := info_parts reft_info
  obtain ⟨iv, hiv, hv0, hv1, hv2⟩ := info_parts row64_info
  obtain ⟨im, him, hm0, hm1, hm2⟩ := info_parts six_info
  have htt := ht
  obtain ⟨ht1, ht2, ht3, ht4, ht5⟩ := ht
  have hk0 := Blk.new w 32 #[.slice P s.p.length c1, .slice V s.v.length c2, .slice M s.m.length c3]
  have hb0 : Below w.heap.size w (w.alloc (.cells #[.slice P s.p.length c1, .slice V s.v.length c2, .slice M s.m.length c3] 32)) := (Below.refl _ _).alloc (Nat.le_refl _) _
  have hN0 := OwnRow.nil (α := RefA) (w.heap.size + 1) (w.alloc (.cells #[.slice P s.p.length c1, .slice V s.v.length c2, .slice M s.m.length c3] 32)) 94 2 RefA.cells RefA.ok
  have HS := Lib.hid hS
  have Hk0 := Lib.hid hk0
  have Htt := Lib.hid htt
  have Ht4 := Lib.hid ht4
  have Ht5 := Lib.hid ht5
  have HN0 := Lib.hid hN0
  clear hS hk0 htt ht4 ht5 hN0
  go_enter Tryz.func11, Tryz.ntmps11
  go_wp2_with fail
  go_loopw [3, 7, 16] (fun v _ i wr => ∃ (k : Nat) (L : List RefA) (A : Option Addr) (cap : Nat), k ≤ s.p.length ∧ i = .int .i64 k ∧ v = .slice A L.length cap ∧ L.map (·.1) = s.p.take k ∧ (∀ x ∈ L, Ints .i64 w x.2.1.1 x.1.s) ∧ OwnRow (w.heap.size + 1) wr.heap.size wr 94 2 (.slice A L.length cap) RefA.cells RefA.ok L ∧ Blk wr w.heap.size 32 #[.slice P s.p.length c1, .slice V s.v.length c2, .slice M s.m.length c3] ∧ Below w.heap.size w wr) (fun _ _ i _ => s.p.length - (intOf i).toNat)
  case atStart => exact ⟨0, [], none, 0, Nat.zero_le _, rfl, rfl, rfl, by simp, HN0.out, Hk0.out, hb0⟩
  case round =>
    clear HN0 Hk0 hb0
    obtain ⟨k, L, A, cap, hk, rfl, rfl, hL, hold, hN, hkb, hbel⟩ := hrel
    have hsz := hkb.lt
    have hLl : L.length = k := by have := congrArg List.length hL; simp at this; omega
    by_cases hlt : k < s.p.length
    · obtain ⟨b, off, S, cS, C, dC, rfl, hb, e0, e1, hTR, _, _⟩ := HS.out.1 k hlt
      have e0' := (hbel.cell (p := ⟨b, off + k * 2, none⟩) hb).trans e0
      have e1' := (hbel.cell (p := ⟨b, off + k * 2 + 1, none⟩) hb).trans e1
      have hsm := Ht4.out s.p[k] (List.getElem_mem hlt)
      have hnext := List.take_succ_eq_append_getElem hlt
      have HL := Lib.hid hL
      have Hold := Lib.hid hold
      have HLl := Lib.hid hLl
      have Hnext := Lib.hid hnext
      have HTR := Lib.hid hTR
      clear hL hold hLl hnext hTR
      generalize s.p[k] = x at *
      obtain ⟨hx1, hx2⟩ := hsm
      have hk1 := (hkb.alloc (.cells #[.slice S x.s.length cS, .slice C x.c.length dC] 26)).drew
      have hb1 := (hbel.alloc hbel.size (.cells #[.slice S x.s.length cS, .slice C x.c.length dC] 26)).drew
      have hN1 := OwnRow.fr (S := fun _ => False) hN (((Fr.refl (fun _ => False) wr).alloc (.cells #[.slice S x.s.length cS, .slice C x.c.length dC] 26)).drew) (fun _ _ _ h => h)
      have hq1 := (Blk.new wr 26 #[.slice S x.s.length cS, .slice C x.c.length dC]).drew
      have hcall := law_cells S C cS dC x _ (by omega) (HTR.out.2.below hb1 (Nat.le_refl _))
      have Hk1 := Lib.hid hk1
      have HN1 := Lib.hid hN1
      have Hq1 := Lib.hid hq1
      have Hcall := Lib.hid hcall
      clear hk1 hN1 hq1 hcall
      clear hkb hN e0 e1
      have hwl : wr.heap.size < (wr.alloc (.cells #[.slice S x.s.length cS, .slice C x.c.length dC] 26)).drew.heap.size := by simp
      have hLb : L.length ≤ 800 := by have := HLl.out; omega
      go_wp2_with fail
      go_region_held3 (fun w' => w'.cell? ⟨wr.heap.size, 0, none⟩ = some (.slice S x.s.length cS) ∧ w'.cell? ⟨wr.heap.size, 1, none⟩ = some (.slice C x.c.length dC)) (first | go_keep | exact ⟨y0, y1⟩)
        (first
          | (go_at_call 28; refine Hcall.out.mono ?_; rintro e w3 ⟨A3, d3, rfl, hown3, h3⟩; have hq3 := Hq1.out.below h3 Hq1.out.lt; have z0 := hq3.cell 0; have z1 := hq3.cell 1; simp at z0 z1; have hq3l := hq3.lt)
          | (refine step_append_lies _ (by rfl) _ _ _ (by rfl) (w.heap.size + 1) 94 ip _ 2 48 Tryz.underlying88 hip hp0 hp1 hp2 rfl (by omega) (.slice A L.length cap) L.length (L.flatMap RefA.cells) (by rfl) (OwnRow.fr (S := fun _ => False) HN1.out ((Fr.of_below h3 (fun b hb _ => hb)).alloc _) (fun _ _ _ h => h)).1 ⟨w3.heap.size, 0, none⟩ 1 1 [.slice S x.s.length cS, .slice A3 x.c.length d3] (by rfl) (by rfl) (World.news_of_block (cs := #[.slice S x.s.length cS, .slice A3 x.c.length d3]) (t := 94) (fr := (0, 0)) (heap_alloc_new w3 _)) (by simp [Value.oneCell']) (by omega) (by unfold maxLen; omega) (by omega) (by have := h3.size; simp at this; simp; omega) (w3.heap.size + 1) (by simp) ?_; intro g7 cap7 w7 hown7 hg7 hat7 hlt7; have y0 : w7.cell? ⟨wr.heap.size, 0, none⟩ = some (.slice S x.s.length cS) := hg7.cell (by rw [World.cell?_alloc_lt w3 _ _ (by simp; omega)]; exact z0) (fun e => by have := HN1.out.2.1 _ e.symm; simp at this); have y1 : w7.cell? ⟨wr.heap.size, 1, none⟩ = some (.slice C x.c.length dC) := hg7.cell (by rw [World.cell?_alloc_lt w3 _ _ (by simp; omega)]; exact z1) (fun e => by have := HN1.out.2.1 _ e.symm; simp at this)))
      have hN4 := OwnRow.fr (S := fun _ => False) HN1.out ((Fr.of_below h3 (fun b hb _ => hb)).alloc (.cells #[.slice S x.s.length cS, .slice A3 x.c.length d3] 94)) (fun _ _ _ h => h)
      have hob : ∀ q, (Value.slice A L.length cap).ownBlock = some q → w.heap.size + 1 ≤ q ∧ q < wr.heap.size := fun q hq => ⟨(hN4.1.lt q hq).1, hN4.2.1 q hq⟩
      have hw3 : wr.heap.size + 1 ≤ w3.heap.size := by have := h3.size; simp at this; omega
      have hN7 := OwnRow.push (x := ((x, (S, cS), (A3, d3)) : RefA)) hN4 hown7 hg7 (by rcases hat7 with h | h; exact .inl h.symm; right; rw [h]; simp [Value.ownBlock]) (F := fun q => ∃ a, A3 = some a ∧ q = a.block) (own_on (hown3.alloc _)) (fun q hq => by
        obtain ⟨a, ha, rfl⟩ := hq
        have h1 := hown3.lt a.block (by rw [ha]; rfl)
        simp at h1
        refine ⟨by omega, by simp; omega, fun e => ?_⟩
        have := hob _ e.symm
        omega)
      have hS7 := Fr.of_grown (S := fun b => w.heap.size + 1 ≤ b) hg7 (fun k e _ => (hob k e).1)
      have hk7 := hS7.blk ((Hk1.out.below h3 Hk1.out.lt).alloc (.cells #[.slice S x.s.length cS, .slice A3 x.c.length d3] 94)) (by omega)
      have hb7 : Below w.heap.size w w7 := ((hb1.trans (h3.mono hb1.size)).alloc (by omega) (.cells #[.slice S x.s.length cS, .slice A3 x.c.length d3] 94)).trans (hS7.below (fun b e => by omega) (by simp; omega))
      have hlen7 : L.length + 1 = (L ++ [((x, (S, cS), (A3, d3)) : RefA)]).length := by simp
      have HL7 := Lib.hid (show (L ++ [((x, (S, cS), (A3, d3)) : RefA)]).map (·.1) = s.p.take (k + 1) by rw [Hnext.out, List.map_append, HL.out]; rfl)
      have HO7 := Lib.hid (show ∀ y ∈ L ++ [((x, (S, cS), (A3, d3)) : RefA)], Ints .i64 w y.2.1.1 y.1.s by
        intro y hy
        rcases List.mem_append.1 hy with hy | hy
        · exact Hold.out y hy
        · rw [List.mem_singleton] at hy; subst hy; exact HTR.out.1)
      have HN7 := Lib.hid (show OwnRow (w.heap.size + 1) w7.heap.size w7 94 2 (.slice (some ⟨g7, 0, none⟩) (L ++ [((x, (S, cS), (A3, d3)) : RefA)]).length cap7) RefA.cells RefA.ok (L ++ [((x, (S, cS), (A3, d3)) : RefA)]) by rw [← hlen7]; exact hN7)
      have HV7 := Lib.hid (show (Value.slice (some ⟨g7, 0, none⟩) (L.length + 1) cap7) = .slice (some ⟨g7, 0, none⟩) (L ++ [((x, (S, cS), (A3, d3)) : RefA)]).length cap7 by rw [hlen7])
      have Hk7 := Lib.hid hk7
      clear hk7
      clear hN4 hN7 hob hS7 hown7 hg7 hat7 hlt7 hown3 h3 hq3 z0 z1 y0 y1 hlen7 e0' e1' hb1 HN1 Hk1 Hq1 Hcall hwl hbel
      generalize L ++ [((x, (S, cS), (A3, d3)) : RefA)] = L7 at *
      go_wp2_with fail
      go_roundw
      case rel => exact ⟨k + 1, L7, some ⟨g7, 0, none⟩, cap7, by omega, by go_num, HV7.out, HL7.out, HO7.out, HN7.out, Hk7.out, hb7⟩
      case measure => simp [intOf]; omega
    · obtain rfl : k = s.p.length := by omega
      rw [List.take_length] at hL
      have g1 := hkb.cell 1
      simp at g1
      have hV0 := OwnRow.nil (α := RowA) wr.heap.size wr 91 1 RowA.cells RowA.ok
      obtain ⟨C, hC⟩ : ∃ C, C = wr.heap.size := ⟨_, rfl⟩
      rw [← hC] at hN hsz hV0
      have HCC := Lib.hid hC
      have HN := Lib.hid hN
      have HV0 := Lib.hid hV0
      have Hkb := Lib.hid hkb
      have HL := Lib.hid hL
      have Hold := Lib.hid hold
      clear hN hV0 hkb hL hold
      clear hLl hC
      go_wp2_with fail
      go_loopw [4, 9, 33] (fun v _ i wv => ∃ (k : Nat) (LV : List RowA) (A2 : Option Addr) (cap2 : Nat), k ≤ s.v.length ∧ i = .int .i64 k ∧ v = .slice A2 LV.length cap2 ∧ LV.map (·.1) = (s.v.take k).map (·.c) ∧ OwnRow (w.heap.size + 1) C wv 94 2 (.slice A L.length cap) RefA.cells RefA.ok L ∧ OwnRow C wv.heap.size wv 91 1 (.slice A2 LV.length cap2) RowA.cells RowA.ok LV ∧ Blk wv w.heap.size 32 #[.slice P s.p.length c1, .slice V s.v.length c2, .slice M s.m.length c3] ∧ Below w.heap.size w wv) (fun _ _ i _ => s.v.length - (intOf i).toNat)
      case atStart => exact ⟨0, [], none, 0, Nat.zero_le _, rfl, rfl, rfl, HN.out, by rw [← HCC.out]; exact HV0.out, Hkb.out, hbel⟩
      case round =>
        clear HN HV0 Hkb hbel g1 HCC
        obtain ⟨wo, rfl⟩ : ∃ wo : World, wo = wr := ⟨_, rfl⟩
        obtain ⟨k, LV, A2, cap2, hk, rfl, rfl, hLV, hN, hV, hkb, hbel⟩ := hrel
        have hCw := hN.2.2.1
        have hLl : LV.length = k := by have := congrArg List.length hLV; simp at this; omega
        by_cases hlt : k < s.v.length
        · obtain ⟨b, off, S, cS, C', dC, rfl, hb, e0, e1, hTR, _, _⟩ := HS.out.2.1 k hlt
          have e0' := (hbel.cell (p := ⟨b, off + k * 2, none⟩) hb).trans e0
          have e1' := (hbel.cell (p := ⟨b, off + k * 2 + 1, none⟩) hb).trans e1
          have hsm := Ht5.out s.v[k] (List.getElem_mem hlt)
          have hnext := List.take_succ_eq_append_getElem hlt
          have HLV := Lib.hid hLV
          have HLl := Lib.hid hLl
          have Hnext := Lib.hid hnext
          have HTR := Lib.hid hTR
          clear hLV hLl hnext hTR
          generalize s.v[k] = x at *
          obtain ⟨hx1, hx2⟩ := hsm
          have hk1 := hkb.alloc (.cells #[.slice S x.s.length cS, .slice C' x.c.length dC] 26)
          have hb1 := hbel.alloc hbel.size (.cells #[.slice S x.s.length cS, .slice C' x.c.length dC] 26)
          have hN1 := OwnRow.fr (S := fun _ => False) hN ((Fr.refl (fun _ => False) wo).alloc (.cells #[.slice S x.s.length cS, .slice C' x.c.length dC] 26)) (fun _ _ _ h => h)
          have hV1 := OwnRow.fr (S := fun _ => False) hV ((Fr.refl (fun _ => False) wo).alloc (.cells #[.slice S x.s.length cS, .slice C' x.c.length dC] 26)) (fun _ _ _ h => h)
          have Hk1 := Lib.hid hk1
          have HN1 := Lib.hid hN1
          have HV1 := Lib.hid hV1
          clear hk1 hN1 hV1
          clear hkb hN hV e0 e1
          go_wp2_with fail
          refine (law_cells S C' cS dC x _ (by omega) (HTR.out.2.below hb1 (Nat.le_refl _))).mono ?_
          rintro e w3 ⟨A3, d3, rfl, hown3, h3⟩
          have hw3 : wo.heap.size + 1 ≤ w3.heap.size := by have := h3.size; simp at this; omega
          have hN4 := OwnRow.fr (S := fun _ => False) HN1.out ((Fr.of_below h3 (fun b hb _ => hb)).alloc (.cells #[.slice A3 x.c.length d3] 91)) (fun _ _ _ h => h)
          have hV4 := OwnRow.fr (S := fun _ => False) HV1.out ((Fr.of_below h3 (fun b hb _ => hb)).alloc (.cells #[.slice A3 x.c.length d3] 91)) (fun _ _ _ h => h)
          have hk4 := (Hk1.out.below h3 Hk1.out.lt).alloc (.cells #[.slice A3 x.c.length d3] 91)
          have hb4 := (hb1.trans (h3.mono hb1.size)).alloc (by omega) (.cells #[.slice A3 x.c.length d3] 91)
          have hown4 := hown3.alloc (.cells #[.slice A3 x.c.length d3] 91)
          have hol := hown3.lt
          have hLb : LV.length ≤ 800 := by have := HLl.out; omega
          have HN4 := Lib.hid hN4
          have HV4 := Lib.hid hV4
          have Hk4 := Lib.hid hk4
          have Hown4 := Lib.hid hown4
          have Hol := Lib.hid hol
          clear hN4 hV4 hk4 hown4 hol
          clear hown3 h3 HN1 HV1 Hk1 hb1 e0' e1'
          go_wp2_with (at_builtin; refine wpList_append_own_at _ rfl _ _ 89 rfl C 91 iv (.slice none 0 0) 1 24 Tryz.underlying89 hiv hv0 hv1 hv2 rfl (by decide) _ LV.length (LV.flatMap RowA.cells) rfl HV4.out.1 ⟨w3.heap.size, 0, none⟩ 1 1 [.slice A3 x.c.length d3] rfl rfl ?c1 ?c2 ?c3 ?c4 ?c5 ?_)
          case c1 => exact one_new _ _ _
          case c2 => intro u hu; simp at hu; subst hu; rfl
          case c3 => unfold maxLen; omega
          case c4 => omega
          case c5 => simp; omega
          intro v7 w7 hown7 hg7 _ hat7
          have hs4 : w3.heap.size + 1 = (w3.alloc (.cells #[.slice A3 x.c.length d3] 91)).heap.size := by simp
          have hob : ∀ q, (Value.slice A2 LV.length cap2).ownBlock = some q → C ≤ q ∧ q < wo.heap.size := fun q hq => ⟨(HV4.out.1.lt q hq).1, HV4.out.2.1 q hq⟩
          have hV7 := OwnRow.push (x := ((x.c, (A3, d3)) : RowA)) HV4.out hown7 hg7 (by rcases hat7 with h | h; exact .inl h; right; rw [h, ← hs4]) (F := fun q => ∃ a, A3 = some a ∧ q = a.block) (own_on Hown4.out) (fun q hq => by
            obtain ⟨a, ha, rfl⟩ := hq
            have h1 := Hol.out a.block (by rw [ha]; rfl)
            simp at h1
            refine ⟨by omega, by simp; omega, fun e => ?_⟩
            have := hob _ e.symm
            omega)
          obtain ⟨A7, cap7, rfl, _⟩ := OwnRow.form hV7
          have hS7 := Fr.of_grown (S := fun b => C ≤ b) hg7 (fun k e _ => (hob k e).1)
          have hk7 := hS7.blk Hk4.out (by omega)
          have hN7 := OwnRow.fr HN4.out hS7 (fun b _ h e => by omega)
          have hb7 := hb4.trans (hS7.below (B := w.heap.size) (fun b e => by omega) (by omega))
          have HL7 := Lib.hid (show (LV ++ [((x.c, (A3, d3)) : RowA)]).map (·.1) = (s.v.take (k + 1)).map (·.c) by rw [Hnext.out, List.map_append, List.map_append, HLV.out]; rfl)
          have Hk7 := Lib.hid hk7
          have HN7 := Lib.hid hN7
          have HV7 := Lib.hid hV7
          clear hk7 hN7 hV7
          clear hob hS7 hown7 hg7 hat7 HN4 HV4 Hk4 hb4 Hown4 Hol hs4 hbel
          generalize LV ++ [((x.c, (A3, d3)) : RowA)] = L7 at *
          go_wp2_with fail
          go_roundw
          case rel => exact ⟨k + 1, L7, A7, cap7, by omega, by go_num, rfl, HL7.out, HN7.out, HV7.out, Hk7.out, hb7⟩
          case measure => simp [intOf]; omega
        · obtain rfl : k = s.v.length := by omega
          rw [List.take_length] at hLV
          have g2 := hkb.cell 2
          simp at g2
          have hM0 := OwnRow.nil (α := Met) wo.heap.size wo 95 6 metCells (fun _ _ => True)
          obtain ⟨D, hD⟩ : ∃ D, D = wo.heap.size := ⟨_, rfl⟩
          rw [← hD] at hV hCw hM0
          have HDD := Lib.hid hD
          have HN := Lib.hid hN
          have HV := Lib.hid hV
          have HM0 := Lib.hid hM0
          have Hkb := Lib.hid hkb
          have HLV := Lib.hid hLV
          clear hN hV hM0 hkb hLV
          clear hLl hD
          go_wp2_with fail
          go_loopw [5, 11, 46] (fun v _ i wv => ∃ (k : Nat) (A4 : Option Addr) (cap4 : Nat), k ≤ s.m.length ∧ i = .int .i64 k ∧ v = .slice A4 (s.m.take k).length cap4 ∧ OwnRow (w.heap.size + 1) C wv 94 2 (.slice A L.length cap) RefA.cells RefA.ok L ∧ OwnRow C D wv 91 1 (.slice A2 LV.length cap2) RowA.cells RowA.ok LV ∧ OwnRow D wv.heap.size wv 95 6 (.slice A4 (s.m.take k).length cap4) metCells (fun _ _ => True) (s.m.take k) ∧ Below w.heap.size w wv) (fun _ _ i _ => s.m.length - (intOf i).toNat)
          case atStart => exact ⟨0, none, 0, Nat.zero_le _, rfl, rfl, HN.out, HV.out, by rw [← HDD.out]; exact HM0.out, hbel⟩
          case round =>
            clear HN HV HM0 Hkb hbel g2 HDD
            obtain ⟨wp, rfl⟩ : ∃ wp : World, wp = wr := ⟨_, rfl⟩
            obtain ⟨k, A4, cap4, hk, rfl, rfl, hN, hV, hM, hbel⟩ := hrel
            have hDw := hV.2.2.1
            have hkl : (s.m.take k).length = k := by rw [List.length_take]; omega
            by_cases hlt : k < s.m.length
            · obtain ⟨b, off, rfl, hb, e0, e1, e2, e3, e4, e5⟩ := HS.out.2.2.below hbel (Nat.le_refl _) k hlt
              have hnext := List.take_succ_eq_append_getElem hlt
              have Hnext := Lib.hid hnext
              have Hkl := Lib.hid hkl
              clear hnext hkl
              generalize s.m[k] = x at *
              have hT2 := ((Fr.refl (fun _ => False) wp).alloc (.cells #[.int .i64 x.a, .int .i64 x.b, .int .i64 x.c, .int .i64 x.d, .int .i64 x.e, .int .i64 x.f] 70)).alloc (.cells #[.int .i64 x.a, .int .i64 x.b, .int .i64 x.c, .int .i64 x.d, .int .i64 x.e, .int .i64 x.f] 95)
              have hN1 := OwnRow.fr hN hT2 (fun _ _ _ h => h)
              have hV1 := OwnRow.fr hV hT2 (fun _ _ _ h => h)
              have hM1 := OwnRow.fr hM hT2 (fun _ _ _ h => h)
              have hb1 := (hbel.alloc hbel.size (.cells #[.int .i64 x.a, .int .i64 x.b, .int .i64 x.c, .int .i64 x.d, .int .i64 x.e, .int .i64 x.f] 70)).alloc (by have := hbel.size; simp; omega) (.cells #[.int .i64 x.a, .int .i64 x.b, .int .i64 x.c, .int .i64 x.d, .int .i64 x.e, .int .i64 x.f] 95)
              have hd1 := Blk.new (wp.alloc (.cells #[.int .i64 x.a, .int .i64 x.b, .int .i64 x.c, .int .i64 x.d, .int .i64 x.e, .int .i64 x.f] 70)) 95 #[.int .i64 x.a, .int .i64 x.b, .int .i64 x.c, .int .i64 x.d, .int .i64 x.e, .int .i64 x.f]
              rw [World.size_alloc] at hd1
              have HN1 := Lib.hid hN1
              have HV1 := Lib.hid hV1
              have HM1 := Lib.hid hM1
              have Hd1 := Lib.hid hd1
              clear hN1 hV1 hM1 hd1
              clear hN hV hM hT2
              go_wp2_with (at_builtin; refine wpList_append_own_at _ rfl _ _ 90 rfl D 95 im (.agg #[.int .i64 0, .int .i64 0, .int .i64 0, .int .i64 0, .int .i64 0, .int .i64 0]) 6 48 Tryz.underlying90 him hm0 hm1 hm2 rfl (by decide) _ (s.m.take k).length ((s.m.take k).flatMap metCells) rfl HM1.out.1 ⟨wp.heap.size + 1, 0, none⟩ 1 1 [.int .i64 x.a, .int .i64 x.b, .int .i64 x.c, .int .i64 x.d, .int .i64 x.e, .int .i64 x.f] rfl rfl ?c1 ?c2 ?c3 ?c4 ?c5 ?_)
              case c1 => exact World.news_of_block (cs := #[.int .i64 x.a, .int .i64 x.b, .int .i64 x.c, .int .i64 x.d, .int .i64 x.e, .int .i64 x.f]) Hd1.out
              case c2 => intro u hu; simp at hu; rcases hu with rfl | rfl | rfl | rfl | rfl | rfl <;> rfl
              case c3 => unfold maxLen; have := Hkl.out; omega
              case c4 => have := Hkl.out; omega
              case c5 => simp; omega
              intro v7 w7 hown7 hg7 _ hat7
              have hs4 : wp.heap.size + 1 + 1 = ((wp.alloc (.cells #[.int .i64 x.a, .int .i64 x.b, .int .i64 x.c, .int .i64 x.d, .int .i64 x.e, .int .i64 x.f] 70)).alloc (.cells #[.int .i64 x.a, .int .i64 x.b, .int .i64 x.c, .int .i64 x.d, .int .i64 x.e, .int .i64 x.f] 95)).heap.size := by simp
              have hob : ∀ q, (Value.slice A4 (s.m.take k).length cap4).ownBlock = some q → D ≤ q := fun q hq => (HM1.out.1.lt q hq).1
              have hM7 := OwnRow.push (x := x) HM1.out (by first | exact hown7 | (rw [Hkl.out]; exact hown7)) (by first | exact hg7 | (rw [Hkl.out]; exact hg7)) (by rcases hat7 with h | h; (left; first | exact h | (rw [Hkl.out]; exact h)); right; rw [h, ← hs4]) (F := fun _ => False) (fun _ _ => trivial) (fun q hq => hq.elim)
              obtain ⟨A7, cap7, hv7, _⟩ := OwnRow.form hM7
              have hS7 := Fr.of_grown (S := fun b => D ≤ b) hg7 (fun k e _ => hob k (by first | exact e | (rw [Hkl.out]; exact e)))
              have hN7 := OwnRow.fr HN1.out hS7 (fun b _ h e => by omega)
              have hV7 := OwnRow.fr HV1.out hS7 (fun b _ h e => by omega)
              have hb7 := hb1.trans (hS7.below (B := w.heap.size) (fun b e => by omega) (by have := hb1.size; omega))
              rw [hv7] at hM7 ⊢
              rw [← Hnext.out] at hM7 ⊢
              have HN7 := Lib.hid hN7
              have HV7 := Lib.hid hV7
              have HM7 := Lib.hid hM7
              clear hN7 hV7 hM7
              clear hob hS7 hown7 hg7 hat7 hv7 HN1 HV1 HM1 Hd1 hb1 hs4 hbel e0 e1 e2 e3 e4 e5
              go_wp2_with fail
              go_roundw
              case rel => exact ⟨k + 1, A7, cap7, by omega, by go_num, by first | rfl | (rw [List.length_take, Nat.min_eq_left (by omega)]), HN7.out, HV7.out, HM7.out, hb7⟩
              case measure => simp [intOf]; omega
            · obtain rfl : k = s.m.length := by omega
              rw [List.take_length] at hM
              have hT := refs_tens hN (fun x hx => (Hold.out x hx).below hbel (Nat.le_refl _)) (fun x hx => by
                have := Ht4.out x.1 (by rw [← HL.out]; exact List.mem_map_of_mem hx)
                omega)
              have hR := rows_rowsI hV
              have hM2 := mets_of hM
              have hl1 : L.length = s.p.length := by rw [← HL.out]; simp
              have hl2 : LV.length = s.v.length := by have := congrArg List.length HLV.out; simpa using this
              rw [HL.out] at hT
              rw [HLV.out] at hR
              have HT := Lib.hid hT
              have HR := Lib.hid hR
              have HM2 := Lib.hid hM2
              have Hl1 := Lib.hid hl1
              have Hl2 := Lib.hid hl2
              clear hT hR hM2 hl1 hl2
              clear hN hV hM
              have hcall := ref27_encode A A2 A4 cap cap2 cap4 s wp Htt.out HT.out HR.out HM2.out
              rw [List.length_map, ← Hl1.out, ← Hl2.out] at hcall
              have hkl2 : (s.m.take s.m.length).length = s.m.length := by rw [List.take_length]
              have Hcall := Lib.hid hcall
              clear hcall
              clear hkl
              go_wp2_with fail
              first | refine Hcall.out.mono ?_ | (rw [hkl2]; refine Hcall.out.mono ?_)
              rintro e w5 ⟨rfl, h5⟩
              have hb5 := hbel.trans (h5.mono hbel.size)
              go_wp2_with fail
              go_ret
              exact ⟨rfl, hb5⟩
end Go.Proofs.YtkmhagjdafeebaaGreat
/- Layer 1 (fix): the numbers as plain arithmetic, and bits. No program is named here. -/
namespace Go.Proofs.YtkmhagjdafeebaaGreat
open Go.RowKit
namespace Fx
/-- What a number may be. -/
def In (x : Int) : Prop := -9223372036854775808 ≤ x ∧ x ≤ 9223372036854775807
def clamp (z : Int) : Int := if 9223372036854775807 < z then 9223372036854775807 else if z < -9223372036854775808 then -9223372036854775808 else z
theorem clamp_in (z : Int) : In (clamp z) := by unfold clamp In; split <;> (try split) <;> omega
theorem clamp_id {z : Int} (h : In z) : clamp z = z := by unfold In at h; unfold clamp; split <;> (try split) <;> omega
theorem clamp_hi {z : Int} (h : 9223372036854775807 ≤ z) : clamp z = 9223372036854775807 := by unfold clamp; split <;> (try split) <;> omega
theorem clamp_lo {z : Int} (h : z ≤ -9223372036854775808) : clamp z = -9223372036854775808 := by unfold clamp; split <;> (try split) <;> omega
theorem in_zero : In 0 := by unfold In; omega
def add (x y : Int) : Int := clamp (x + y)
/-- p / d, rounded to the nearest, to the even one of two. -/
def rnd (p d : Nat) : Nat := if d < 2 * (p % d) ∨ (2 * (p % d) = d ∧ p / d % 2 = 1) then p / d + 1 else p / d
def neg2 (x y : Int) : Bool := decide (x < 0) != decide (y < 0)
def sgn (b : Bool) (n : Nat) : Int := if b then -(n : Int) else n
def mul (x y : Int) : Int := clamp (sgn (neg2 x y) (rnd (x.natAbs * y.natAbs) 4294967296))
def edge (b : Bool) : Int := if b then -9223372036854775808 else 9223372036854775807
def div (x y : Int) : Int := if y = 0 then (if x = 0 then 0 else edge (decide (x < 0))) else clamp (sgn (neg2 x y) (rnd (x.natAbs * 4294967296) y.natAbs))
theorem edge_in (b : Bool) : In (edge b) := by cases b <;> (unfold edge In; simp)
theorem add_in (x y : Int) : In (add x y) := clamp_in _
theorem mul_in (x y : Int) : In (mul x y) := clamp_in _
theorem div_in (x y : Int) : In (div x y) := by
  unfold div
  split
  · split
    · exact in_zero
    · exact edge_in _
  · exact clamp_in _
theorem clamp_sgn_big {b : Bool} {n : Nat} (h : 9223372036854775808 ≤ n) : clamp (sgn b n) = edge b := by
  cases b
  · exact clamp_hi (by simp [sgn]; omega)
  · exact clamp_lo (by simp [sgn]; omega)
theorem clamp_sgn_small {b : Bool} {n : Nat} (h : n < 9223372036854775808) : clamp (sgn b n) = sgn b n := by
  cases b <;> exact clamp_id (by unfold In; simp [sgn]; omega)
def sum (l : List Int) : Int := l.foldl add 0
def dot (a b : List Int) : Int := (a.zip b).foldl (fun s p => add s (mul p.1 p.2)) 0
theorem foldl_in {α : Type} (f : Int → α → Int) (hf : ∀ s x, In (f s x)) (l : List α) (s : Int) (hs : In s) : In (l.foldl f s) := by
  induction l generalizing s with
  | nil => exact hs
  | cons x r ih => exact ih _ (hf s x)
theorem sum_in (l : List Int) : In (sum l) := foldl_in _ (fun s x => add_in s x) _ _ in_zero
theorem dot_in (a b : List Int) : In (dot a b) := foldl_in _ (fun s x => add_in _ _) _ _ in_zero
/-- Within bounds low and high. -/
def held (x low high : Int) : Int := if high < x then high else if x < low then low else x
theorem held_in {x low high : Int} (hx : In x) (hl : In low) (hh : In high) : In (held x low high) := by unfold held; split <;> (try split) <;> assumption
def neg (x : Int) : Int := if x = -9223372036854775808 then 9223372036854775807 else -x
end Fx

/-- A word's sign. -/
theorem wrap_neg (v : BitVec 64) : IntKind.i64.wrap (v.toNat : Int) < 0 ↔ v.msb = true := by
  have := v.isLt
  rw [IntKind.wrap_i64, BitVec.msb_eq_decide]
  simp
  omega
theorem ofInt_msb {a : Int} (h : Fx.In a) : (BitVec.ofInt 64 a).msb = decide (a < 0) := by
  unfold Fx.In at h
  rw [BitVec.msb_eq_decide, BitVec.toNat_ofInt]
  simp only [decide_eq_decide]
  omega
theorem wrap_in (n : Int) : Fx.In (IntKind.i64.wrap n) := by unfold Fx.In; rw [IntKind.wrap_i64]; omega
theorem ofInt_wrap (v : BitVec 64) : BitVec.ofInt 64 (IntKind.i64.wrap (v.toNat : Int)) = v := by
  have := v.isLt
  apply BitVec.eq_of_toNat_eq
  rw [BitVec.toNat_ofInt, IntKind.wrap_i64]
  omega
theorem xor_neg {a b : Int} (ha : Fx.In a) (hb : Fx.In b) : bits .xor .i64 a b < 0 ↔ (decide (a < 0) != decide (b < 0)) = true := by
  show IntKind.i64.wrap ((BitVec.ofInt 64 a ^^^ BitVec.ofInt 64 b).toNat : Int) < 0 ↔ _
  rw [wrap_neg, BitVec.msb_xor, ofInt_msb ha, ofInt_msb hb]
theorem bits_in (o : BinOp) (a b : Int) : Fx.In (bits o .i64 a b) := wrap_in _
theorem and_neg {a b : Int} (ha : Fx.In a) (hb : Fx.In b) : bits .and .i64 a b < 0 ↔ a < 0 ∧ b < 0 := by
  show IntKind.i64.wrap ((BitVec.ofInt 64 a &&& BitVec.ofInt 64 b).toNat : Int) < 0 ↔ _
  rw [wrap_neg, BitVec.msb_and, ofInt_msb ha, ofInt_msb hb]
  simp
/-- The overflow's test of a sum. -/
theorem add_over {x y s : Int} (hx : Fx.In x) (hy : Fx.In y) (hs : s = IntKind.i64.wrap (x + y)) : bits .and .i64 (bits .xor .i64 x s) (bits .xor .i64 y s) < 0 ↔ ¬ Fx.In (x + y) := by
  have hsi : Fx.In s := by rw [hs]; exact wrap_in _
  rw [and_neg (bits_in _ _ _) (bits_in _ _ _), xor_neg hx hsi, xor_neg hy hsi]
  simp only [bne_iff_ne, ne_eq, decide_eq_decide]
  unfold Fx.In at *
  rw [IntKind.wrap_i64] at hs
  omega
theorem add_no {x y : Int} (h : Fx.In (x + y)) : IntKind.i64.wrap (x + y) = Fx.add x y := by
  unfold Fx.add
  rw [Fx.clamp_id h]
  unfold Fx.In at h
  rw [IntKind.wrap_i64]; omega
theorem add_yes {x y : Int} (hx : Fx.In x) (hy : Fx.In y) (h : ¬ Fx.In (x + y)) : Fx.add x y = Fx.edge (decide (x < 0)) := by
  unfold Fx.add
  unfold Fx.In at *
  by_cases hn : x < 0
  · rw [Fx.clamp_lo (by omega)]; simp [Fx.edge, hn]
  · rw [Fx.clamp_hi (by omega)]; simp [Fx.edge, hn]
end Go.Proofs.YtkmhagjdafeebaaGreat
/- Layer 1 (fix): contracts of sums, signs and bounds. -/
namespace Go.Proofs.YtkmhagjdafeebaaGreat
open Go.RowKit
end Go.Proofs.YtkmhagjdafeebaaGreat
