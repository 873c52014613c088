/- Layer 27 (keep): metrics, Decode: contracts. -/
import Derived.Test.YtjgagbhbgehmpaaKeepS
namespace Go.Proofs.Ytjgagbhbgehmpaa
open Go.RowKit

theorem own_whole {w : World} {B g n : Nat} {e : TypeId} {size : Nat} {xs : List Value} (h : w.ownsRow B e size (.slice (some ⟨g, 0, none⟩) n n) n xs) : Blk w g e xs.toArray := by
  rcases h.2 with ⟨hv, _⟩ | ⟨g', cap, cur, hv, _, hh, _, _, hc, ht⟩
  · cases hv
  · injection hv with h1 h2 h3
    injection h1 with h1
    injection h1 with h1
    subst h1 h3
    have : cur.toList = xs := by rw [← ht, List.take_of_length_le]; simp [hc]
    rw [← this]
    exact hh

namespace Kr
theorem nums_add (a b : Nat) (st : Option (List Int)) : nums (a + b) st = ((nums a st).1 ++ (nums b (nums a st).2).1, (nums b (nums a st).2).2) := by
  induction b with
  | zero => simp [nums]
  | succ b ih => rw [← Nat.add_assoc, nums, ih, nums]; simp
/-- Six numbers each. -/
def group : Nat → List Int → List Met
  | 0, _ => []
  | n + 1, l => ⟨l.getD 0 0, l.getD 1 0, l.getD 2 0, l.getD 3 0, l.getD 4 0, l.getD 5 0⟩ :: group n (l.drop 6)
theorem group_len (n : Nat) (l : List Int) : (group n l).length = n := by
  induction n generalizing l with
  | zero => rfl
  | succ n ih => simp [group, ih]
theorem group_get (n : Nat) (l : List Int) (k : Nat) (h : k < (group n l).length) : (group n l)[k] = ⟨l.getD (k * 6) 0, l.getD (k * 6 + 1) 0, l.getD (k * 6 + 2) 0, l.getD (k * 6 + 3) 0, l.getD (k * 6 + 4) 0, l.getD (k * 6 + 5) 0⟩ := by
  induction n generalizing l k with
  | zero => simp [group] at h
  | succ n ih =>
    cases k with
    | zero => simp [group]
    | succ k =>
      simp only [group, List.getElem_cons_succ]
      rw [ih]
      simp only [List.getD_eq_getElem?_getD, List.getElem?_drop]
      congr 3 <;> omega
def metrics1 (c : Int × Int × Option (List Int)) : Int × List Met × Option (List Int) :=
  if c.2.1 ≠ 0 then (c.2.1, [], c.2.2) else if (nums (c.1.toNat * 6) c.2.2).2.isNone then (16, [], none) else (0, group c.1.toNat (nums (c.1.toNat * 6) c.2.2).1, (nums (c.1.toNat * 6) c.2.2).2)
def metrics (st : Option (List Int)) : Int × List Met × Option (List Int) := metrics1 (count 1024 st)
end Kr

theorem Blk.mets {w : World} {g : Nat} {t : TypeId} {l : List Int} {n : Nat} (h : Blk w g t (l.map (Value.int .i64)).toArray) (hl : l.length = n * 6) : Mets w (some ⟨g, 0, none⟩) (Kr.group n l) := fun j hj => by
  rw [Kr.group_get]
  have hj' : j < n := by rw [Kr.group_len] at hj; exact hj
  have hc : ∀ i, i < 6 → w.cell? ⟨g, 0 + j * 6 + i, none⟩ = some (.int .i64 (l.getD (j * 6 + i) 0)) := fun i hi => by
    rw [Nat.zero_add, h.cell (j * 6 + i)]
    have : j * 6 + i < l.length := by omega
    simp [this]
  exact ⟨g, 0, rfl, h.lt, hc 0 (by omega), hc 1 (by omega), hc 2 (by omega), hc 3 (by omega), hc 4 (by omega), hc 5 (by omega)⟩

def MetsN (B : Nat) (w : World) (v : Value) (ms : List Met) : Prop :=
  ∃ g l, v = .slice (some ⟨g, 0, none⟩) ms.length ms.length ∧ B ≤ g ∧ Blk w g 54 (l.map (Value.int .i64)).toArray ∧ l.length = ms.length * 6 ∧ ms = Kr.group ms.length l
def MetP (r : Nat) (st : Option (List Int)) (w : World) (e : Ending) (w' : World) : Prop :=
  ((Kr.metrics st).1 ≠ 0 ∧ e = .returned (.tuple #[.slice none 0 0, .int .i64 (Kr.metrics st).1]) ∨ (Kr.metrics st).1 = 0 ∧ ∃ v, e = .returned (.tuple #[v, .int .i64 0]) ∧ MetsN w.heap.size w' v (Kr.metrics st).2.1) ∧ RdO r (Kr.metrics st).2.2 w' ∧ Fr (fun b => b = r) w w'
set_option maxHeartbeats 4000000 in
set_option maxRecDepth 100000 in
theorem keep_metrics (r : Nat) (st : Option (List Int)) (w : World) (hR : RdO r st w) :
    Calls Try.prog 29 #[.pointer (some ⟨r, 0, none⟩)] w (MetP r st w) := by
  obtain ⟨i0, hi, hz0, hz1, hz2⟩ := info_parts met_info
  have hrl := hR.lt
  have hmk : ∀ (w : World), (Instr.makeFunc (.func 27) #[.pointer (some ⟨r, 0, none⟩)] #[]).run Try.prog w = .ok (.func (.func 27) #[.pointer (some ⟨r, 0, none⟩)] #[]) w := fun _ => rfl
  have HR := Lib.hid hR
  clear hR
  go_enter Try.func29, Try.ntmps29
  go_wp2_with fail
  refine (keep_count r 1024 st _ HR.out).mono ?_
  rintro e w1 ⟨rfl, hR1, hF1⟩
  have HST := Lib.hid (show Kr.metrics st = Kr.metrics1 ((Kr.count 1024 st).1, (Kr.count 1024 st).2.1, (Kr.count 1024 st).2.2) from rfl)
  have hc0 : 0 ≤ (Kr.count 1024 st).1 ∧ (Kr.count 1024 st).1 ≤ 1024 := by
    unfold Kr.count
    have h2 := Kr.get_two HR.out.ok
    split
    · simp
    · split <;> simp <;> omega
  generalize (Kr.count 1024 st).1 = n at *
  generalize (Kr.count 1024 st).2.1 = er at *
  generalize (Kr.count 1024 st).2.2 = st1 at *
  clear HR
  by_cases he : er = 0
  · subst he
    obtain ⟨m, rfl⟩ := Int.eq_ofNat_of_zero_le hc0.1
    obtain ⟨_, hm⟩ := hc0
    have HS2 := Lib.hid (show Kr.metrics st = if (Kr.nums (m * 6) st1).2.isNone then (16, [], none) else (0, Kr.group m (Kr.nums (m * 6) st1).1, (Kr.nums (m * 6) st1).2) by rw [HST.out]; simp [Kr.metrics1])
    clear HST
    have HR1 := Lib.hid hR1
    clear hR1
    go_wp2_with (at_make; refine wpList_make_full _ rfl _ _ 25 rfl w.heap.size 54 i0 (.agg #[.int .i64 0, .int .i64 0, .int .i64 0, .int .i64 0, .int .i64 0, .int .i64 0]) 6 Try.underlying25 hi hz0 hz1 _ _ _ _ m rfl rfl (by first | rfl | simp) (by first | rfl | simp) ?b2 ?b3 ?b4 ?_)
    case b2 => rw [hz2]; omega
    case b3 => unfold maxLen; omega
    case b4 => exact hF1.size
    intro w2 hown hgrow
    have hblk := own_whole hown
    have hlen := hown.1
    have hS2 := Fr.of_grown (S := fun _ => False) hgrow (by simp)
    have hR2 := HR1.out.fr hS2 (fun b h => h.elim)
    have hF2 := hF1.trans' hS2 (fun _ _ h => h.elim)
    have hgl := hblk.lt
    have hsz1 := hF1.size
    generalize w1.heap.size = g at *
    generalize (madeCells _ _).toList = cur at *
    have HE := Lib.hid (show splice cur 0 ((Kr.nums (0 * 6) st1).1.map (Value.int .i64)) = cur from splice_zero _ _)
    have Hblk := Lib.hid hblk
    have Hlen := Lib.hid hlen
    have HR2 := Lib.hid hR2
    have HF2 := Lib.hid hF2
    clear hblk hlen hR2 hF2
    clear HR1 hown hgrow hS2 hF1
    go_wp2_with fail
    go_loopw [7, 8, 21] (fun _ _ i wr => ∃ k : Nat, k ≤ m ∧ i = .int .i64 k ∧ RdO r (Kr.nums (k * 6) st1).2 wr ∧ Blk wr g 54 (splice cur 0 ((Kr.nums (k * 6) st1).1.map (Value.int .i64))).toArray ∧ Fr (fun b => b = r) w wr) (fun _ _ i _ => m - (intOf i).toNat)
    case atStart => exact ⟨0, Nat.zero_le _, rfl, HR2.out, by rw [HE.out]; exact Hblk.out, HF2.out⟩
    case round =>
      clear HR2 Hblk HF2 HE
      obtain ⟨k, hk, rfl, hR, hG, hF⟩ := hrel
      have hsz := hF.size
      by_cases hlt : k < m
      · have hnl := Kr.nums_len (k * 6) st1
        have hn4 := Kr.nums_add (k * 6) 4 st1
        have hn6 := Kr.nums_add (k * 6 + 4) 2 st1
        have HR := Lib.hid hR
        have HG := Lib.hid hG
        have HF := Lib.hid hF
        have Hnl := Lib.hid hnl
        have Hn4 := Lib.hid hn4
        have Hn6 := Lib.hid hn6
        clear hR hG hF hnl hn4 hn6
        have k0 : (0 : Int) ≤ k := by omega
        have k1 : (k : Int) < m := by omega
        go_wp2_with fail
        have hget4 : ∀ W, RdO r (Kr.nums (k * 6) st1).2 W → Blk W g 54 (splice cur 0 ((Kr.nums (k * 6) st1).1.map (Value.int .i64))).toArray → Blk W wr.heap.size 100 #[.pointer (some ⟨g, k * 6, none⟩), .pointer (some ⟨g, k * 6 + 1, none⟩), .pointer (some ⟨g, k * 6 + 2, none⟩), .pointer (some ⟨g, k * 6 + 3, none⟩)] →
            Calls Try.prog 45 #[.func (.func 27) #[.pointer (some ⟨r, 0, none⟩)] #[], .slice (some ⟨wr.heap.size, 0, none⟩) 4 4] W (GetsP r g (k * 6) 4 54 (splice cur 0 ((Kr.nums (k * 6) st1).1.map (Value.int .i64))) (Kr.nums (k * 6) st1).2 W) := fun W h1 h2 h3 =>
          keep_get_int r g (k * 6) 4 _ _ (some ⟨wr.heap.size, 0, none⟩) 4 _ W h1 h2 (fun i hi => ⟨_, _, rfl, h3.lt, by rw [Nat.zero_add, h3.cell i]; match i, hi with | 0, _ => rfl | 1, _ => rfl | 2, _ => rfl | 3, _ => rfl⟩) (by omega) (by rw [length_splice _ _ _ (by simp [Hnl.out, Hlen.out]; omega), Hlen.out]; omega) (by omega) (by intro a e; injection e with e; subst e; have h1 := HR.out.lt; have h2 := HG.out.lt; simp; omega)
        have hget2 : ∀ W, RdO r (Kr.nums (k * 6 + 4) st1).2 W → ∀ p, p ≠ r → p ≠ g → Blk W g 54 (splice cur 0 ((Kr.nums (k * 6 + 4) st1).1.map (Value.int .i64))).toArray → Blk W p 102 #[.pointer (some ⟨g, k * 6 + 4, none⟩), .pointer (some ⟨g, k * 6 + 5, none⟩)] →
            Calls Try.prog 46 #[.func (.func 27) #[.pointer (some ⟨r, 0, none⟩)] #[], .slice (some ⟨p, 0, none⟩) 2 2] W (GetsP r g (k * 6 + 4) 2 54 (splice cur 0 ((Kr.nums (k * 6 + 4) st1).1.map (Value.int .i64))) (Kr.nums (k * 6 + 4) st1).2 W) := fun W h1 p hp1 hp2 h2 h3 =>
          keep_get_fix r g (k * 6 + 4) 2 _ _ (some ⟨p, 0, none⟩) 2 _ W h1 h2 (fun i hi => ⟨_, _, rfl, h3.lt, by rw [Nat.zero_add, h3.cell i]; match i, hi with | 0, _ => rfl | 1, _ => rfl⟩) (by omega) (by rw [length_splice _ _ _ (by simp [Kr.nums_len, Hlen.out]; omega), Hlen.out]; omega) (by omega) (by intro a e; injection e with e; subst e; exact ⟨hp1, hp2⟩)
        have hrw := HR.out.lt
        have hgw := HG.out.lt
        have Hget4 := Lib.hid hget4
        have Hget2 := Lib.hid hget2
        clear hget4 hget2
        go_region_held3 (fun _ => True) (exact trivial) (first | (go_at_call 45; refine (Hget4.out _ (HR.out.alloc _).drew ((HG.out.alloc _).drew) (Blk.new wr _ _).drew).mono ?_; rintro e w3 ⟨rfl, hR3, hG3, hF3⟩))
        all_goals
          have hF4 := ((HF.out.alloc (.cells #[.pointer (some ⟨g, k * 6, none⟩), .pointer (some ⟨g, k * 6 + 1, none⟩), .pointer (some ⟨g, k * 6 + 2, none⟩), .pointer (some ⟨g, k * 6 + 3, none⟩)] 100)).drew).trans' hF3 (fun b hb e => by rcases e with e | e; exact e; omega)
          have HR4 := Lib.hid (show RdO r (Kr.nums (k * 6 + 4) st1).2 w3 by rw [Hn4.out]; exact hR3)
          have HG4 := Lib.hid (show Blk w3 g 54 (splice cur 0 ((Kr.nums (k * 6 + 4) st1).1.map (Value.int .i64))).toArray by
            have e := splice_splice cur ((Kr.nums (k * 6) st1).1.map (Value.int .i64)) ((Kr.nums 4 (Kr.nums (k * 6) st1).2).1.map (Value.int .i64)) (by simp [Kr.nums_len, Hlen.out]; omega)
            rw [List.length_map, Hnl.out, ← List.map_append] at e
            rw [Hn4.out]
            show Blk w3 g _ (splice cur 0 (((Kr.nums (k * 6) st1).1 ++ (Kr.nums 4 (Kr.nums (k * 6) st1).2).1).map (Value.int .i64))).toArray
            rw [← e]; exact hG3)
          have hr3 := HR4.out.lt
          have hg3 := HG4.out.lt
          have HF4 := Lib.hid hF4
          clear hF4
          clear HR HG HF hR3 hG3 hF3 Hget4
          go_wp2_with fail
          go_region_held3 (fun _ => True) (exact trivial) (first | (go_at_call 46; refine (Hget2.out _ (HR4.out.alloc _).drew w3.heap.size (by omega) (by omega) ((HG4.out.alloc _).drew) (Blk.new w3 _ _).drew).mono ?_; rintro e w5 ⟨rfl, hR5, hG5, hF5⟩))
          all_goals
            have hF6 := ((HF4.out.alloc (.cells #[.pointer (some ⟨g, k * 6 + 4, none⟩), .pointer (some ⟨g, k * 6 + 5, none⟩)] 102)).drew).trans' hF5 (fun b hb e => by rcases e with e | e; exact e; omega)
            have hk6 : (k + 1) * 6 = k * 6 + 4 + 2 := by omega
            have HR6 := Lib.hid (show RdO r (Kr.nums ((k + 1) * 6) st1).2 w5 by rw [hk6, Hn6.out]; exact hR5)
            have HG6 := Lib.hid (show Blk w5 g 54 (splice cur 0 ((Kr.nums ((k + 1) * 6) st1).1.map (Value.int .i64))).toArray by
              have e := splice_splice cur ((Kr.nums (k * 6 + 4) st1).1.map (Value.int .i64)) ((Kr.nums 2 (Kr.nums (k * 6 + 4) st1).2).1.map (Value.int .i64)) (by simp [Kr.nums_len, Hlen.out]; omega)
              rw [List.length_map, Kr.nums_len, ← List.map_append] at e
              rw [hk6, Hn6.out]
              show Blk w5 g _ (splice cur 0 (((Kr.nums (k * 6 + 4) st1).1 ++ (Kr.nums 2 (Kr.nums (k * 6 + 4) st1).2).1).map (Value.int .i64))).toArray
              rw [← e]; exact hG5)
            have HF6 := Lib.hid hF6
            clear hF6
            clear hR5 hG5 hF5 HR4 HG4 HF4 Hget2 hk6
            go_wp2_with fail
            go_roundw
            case rel => exact ⟨k + 1, by omega, by go_num, HR6.out, HG6.out, HF6.out⟩
            case measure => simp [intOf]; omega
      · obtain rfl : k = m := by omega
        have hnl := Kr.nums_len (k * 6) st1
        rw [splice_full _ _ (by rw [List.length_map, hnl, Hlen.out])] at hG
        have HR := Lib.hid hR
        have HG := Lib.hid hG
        have HF := Lib.hid hF
        have Hnl := Lib.hid hnl
        clear hR hG hF hnl
        go_wp2_with fail
        refine (keep_short r (Kr.nums (k * 6) st1).2 _ HR.out).mono ?_
        rintro e w3 ⟨rfl, rfl⟩
        have HRR := Lib.hid HR.out
        cases hs : (Kr.nums (k * 6) st1).2 with
        | none =>
          have HE := Lib.hid (show Kr.metrics st = (16, [], none) by rw [HS2.out, hs]; rfl)
          have h5 := HR.out
          rw [hs] at h5
          have H5 := Lib.hid h5
          clear h5
          clear hs
          go_wp2_with fail
          go_ret2
          exact ⟨.inl ⟨by rw [HE.out]; simp, by rw [HE.out]; rfl⟩, by rw [HE.out]; exact H5.out, HF.out⟩
        | some bs =>
          have HE := Lib.hid (show Kr.metrics st = (0, Kr.group k (Kr.nums (k * 6) st1).1, some bs) by rw [HS2.out, hs]; rfl)
          have h5 := HR.out
          rw [hs] at h5
          have H5 := Lib.hid h5
          clear h5
          clear hs
          go_wp2_with fail
          go_ret2
          refine ⟨.inr ⟨by rw [HE.out], _, rfl, ?_⟩, by rw [HE.out]; exact H5.out, HF.out⟩
          rw [HE.out]
          refine ⟨g, (Kr.nums (k * 6) st1).1, ?_, by omega, HG.out, ?_, ?_⟩
          · simp only [Kr.group_len]; rfl
          · simp only [Kr.group_len]; exact Hnl.out
          · simp only [Kr.group_len]
  · have hne : (er != 0) = true := by simp [he]
    have HST := Lib.hid (show Kr.metrics st = (er, [], st1) by rw [HST.out]; simp [Kr.metrics1, he])
    have He := Lib.hid he
    have HR1 := Lib.hid hR1
    have HF1 := Lib.hid hF1
    clear he hR1 hF1
    go_wp2_with fail
    go_ret2
    exact ⟨.inl ⟨by rw [HST.out]; exact He.out, by rw [HST.out]; rfl⟩, by rw [HST.out]; exact HR1.out, HF1.out⟩
end Go.Proofs.Ytjgagbhbgehmpaa
