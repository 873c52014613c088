/- Layer 17 (code): costs, and the code of bytes: contracts. -/
import Derived.Test.YtklngiikgnmdeaaDoorCodeB
import Derived.Test.YtklngiikgnmdeaaDoorSafeB
import Derived.Test.YtklngiikgnmdeaaDoorBits
import Derived.Deep.RegionHeld3
import Derived.Deep.AppendLies
import Derived.WalkSpells
namespace Go.Proofs.YtklngiikgnmdeaaDoor
open Go.RowKit


def costTo (cost : List Int) (ps : List (Int × Int)) (k : Nat) : List Value := (Cd.costList cost (ps.take k)).map (Value.int .i64)
def costN (cost : List Int) (ps : List (Int × Int)) (k : Nat) : Nat := (Cd.costList cost (ps.take k)).length
theorem costN_le (cost : List Int) (ps : List (Int × Int)) (k : Nat) (h : k ≤ ps.length) : costN cost ps k ≤ k := by
  have := Cd.costList_le cost (ps.take k)
  unfold costN
  rw [List.length_take] at this
  omega
theorem cost_skip (cost : List Int) (ps : List (Int × Int)) (k : Nat) (h : k < ps.length) (hr : Cd.reck ps[k] = false) : costTo cost ps (k + 1) = costTo cost ps k ∧ costN cost ps (k + 1) = costN cost ps k := by
  unfold costTo costN
  rw [Cd.costList_take_skip cost ps k h hr]; exact ⟨rfl, rfl⟩
theorem cost_add (cost : List Int) (ps : List (Int × Int)) (k : Nat) (h : k < ps.length) (hr : Cd.reck ps[k] = true) : costTo cost ps (k + 1) = costTo cost ps k ++ [.int .i64 (cost.getD ps[k].2.toNat 0)] ∧ costN cost ps (k + 1) = costN cost ps k + 1 := by
  unfold costTo costN
  rw [Cd.costList_take_add cost ps k h hr]; simp

set_option maxHeartbeats 1600000 in
theorem code_cost (A : Option Addr) (c : Nat) (ps : List (Int × Int)) (B : Option Addr) (d : Nat) (cost : List Int) (w : World) (hl : ps.length ≤ 9223372036854775807) (hI : Pairs w A ps) (hlc : cost.length ≤ 9223372036854775807) (hJ : Ints .i64 w B cost) :
    Calls Tryd.prog 16 #[.slice A ps.length c, .slice B cost.length d] w fun e w' => e = .returned (.tuple #[.int .i64 (Cd.costs ps cost).1, .int .i64 (Cd.costs ps cost).2]) ∧ Below w.heap.size w w' := by
  have HI := Lib.hid hI
  have HJ := Lib.hid hJ
  clear hI hJ
  by_cases hck : Cd.check ps = 0
  · have ⟨hlen, hall⟩ := Cd.check_zero hck
    have HA := Lib.hid hall
    have HC := Lib.hid hck
    clear hck hall
    obtain ⟨i0, hi, hz0, hz1, hz2⟩ := info_parts int_info
    go_enter Tryd.func16, Tryd.ntmps16
    go_wp2_with fail
    refine (code_check A c ps _ hl HI.out).mono ?_
    rintro e w1 ⟨rfl, h1⟩
    rw [HC.out]
    go_wp2_with fail
    go_loopw [7, 9, 19] (fun v _ i wr => ∃ k : Nat, k ≤ ps.length ∧ i = .int .i64 k ∧ wr.ownsRow w.heap.size 3 1 v (costN cost ps k) (costTo cost ps k) ∧ Below w.heap.size w wr ∧ ∀ j (hj : j < ps.length), j < k → Cd.fine cost ps[j] = true) (fun _ _ i _ => ps.length - (intOf i).toNat)
    case atStart => exact ⟨0, Nat.zero_le _, rfl, World.ownsRow_nil _ _ _ _, h1, by intro j _ hj; omega⟩
    case round =>
      clear h1
      obtain ⟨k, hk, rfl, hown, hbel, hok⟩ := hrel
      have HO := Lib.hid hok
      clear hok
      by_cases hlt : k < ps.length
      · obtain ⟨b, off, rfl, hb, hc, hd⟩ := HI.out.below hbel (Nat.le_refl _) k hlt
        have hnk := costN_le cost ps k hk
        have ⟨hr1, hr2, hr3, hr4⟩ := Cd.right_bd (Cd.all_of HA.out k hlt)
        have hb1 := hbel.alloc hbel.size (Obj.cells #[Value.int IntKind.i64 ps[k].1, Value.int IntKind.i64 ps[k].2] 30)
        cases hrk : Cd.reck ps[k]
        · have HS := Lib.hid (cost_skip cost ps k hlt hrk)
          have HF := Lib.hid (show Cd.fine cost ps[k] = true by simp [Cd.fine, hrk])
          have hx : (ps[k].1 == 1) = false ∧ (ps[k].1 == 2) = false := by simpa [Cd.reck] using hrk
          have hx1 : (ps[k].1 != 1) = true := by simpa using hx.1
          have hx2 : (ps[k].1 != 2) = true := by simpa using hx.2
          have ho1 := hown.alloc (Obj.cells #[Value.int IntKind.i64 ps[k].1, Value.int IntKind.i64 ps[k].2] 30)
          clear hrk hx hbel hown
          go_wp2_with fail
          go_roundw
          case rel => exact ⟨k + 1, by omega, by go_num, by rw [HS.out.1, HS.out.2]; exact ho1, hb1, fun j hj hj2 => by rcases Nat.lt_succ_iff_lt_or_eq.1 hj2 with h | h; exact HO.out j hj h; subst h; exact HF.out⟩
          case measure => simp [intOf]; omega
        · have HS := Lib.hid (cost_add cost ps k hlt hrk)
          have HK := Lib.hid hrk
          have hx : ps[k].1 = 1 ∨ ps[k].1 = 2 := by simpa [Cd.reck] using hrk
          clear hrk
          generalize hp : ps[k] = p at hc hd hr1 hr2 hr3 hr4 hb1 HS HK hx
          obtain ⟨kd, id⟩ := p
          have HP := Lib.hid hp
          clear hp
          dsimp only at hc hd hr1 hr2 hr3 hr4 hb1 HS HK hx
          have ho1 := hown.alloc (Obj.cells #[Value.int IntKind.i64 kd, Value.int IntKind.i64 id] 30)
          clear hown
          by_cases hin : id < (cost.length : Int)
          · obtain ⟨m, rfl⟩ := Int.eq_ofNat_of_zero_le hr3
            rw [Int.toNat_natCast] at HS
            obtain ⟨b2, off2, rfl, hb2, hc2⟩ := HJ.out.below hbel (Nat.le_refl _) m (by omega)
            have hml : m < cost.length := by omega
            have ez : cost.getD m 0 = cost[m] := by simp [hml]
            have HE := Lib.hid ez
            clear ez
            cases hgood : Safe.ok cost[m]
            · have HF := Lib.hid (Cd.costs_form HC.out (Cd.not_all hlt (show Cd.fine cost ps[k] = false by rw [HP.out]; simp [Cd.fine, HK.out, Cd.costOk, hgood, hml])))
              have HG := Lib.hid hgood
              clear hgood
              rcases hx with rfl | rfl
              all_goals
                go_wp2_with fail
                refine (safe_right _ _).mono ?_
                rintro e w2 ⟨rfl, rfl⟩
                rw [HG.out]
                go_wp2_with fail
                go_ret2
                exact ⟨by rw [HF.out]; rfl, hb1⟩
            · have HF := Lib.hid (show Cd.fine cost ps[k] = true by rw [HP.out]; simp [Cd.fine, HK.out, Cd.costOk, hgood, hml])
              have HG := Lib.hid hgood
              clear hgood
              rcases hx with rfl | rfl
              all_goals
                go_wp2_with fail
                refine (safe_right _ _).mono ?_
                rintro e w2 ⟨rfl, rfl⟩
                rw [HG.out]
                go_wp2_with (at_builtin; refine wpList_append_own _ rfl _ _ 37 rfl w.heap.size 3 i0 (.int .i64 0) 1 8 Tryd.underlying37 hi hz0 hz1 hz2 rfl (by decide) _ _ _ rfl (ho1.alloc _) ⟨wr.heap.size + 1, 0, none⟩ 1 1 [.int .i64 cost[m]] rfl rfl (one_new2 _ _ _ _) (by intro u hu; simp at hu; subst hu; rfl) (by unfold maxLen; omega) (by omega) (by have := hbel.size; simp; omega) ?_)
                intro v' w3 hown' hgrow _
                have hb3 : Below w.heap.size w w3 := (hb1.alloc (by have := hbel.size; simp; omega) _).grown hgrow (by have := hbel.size; simp; omega) (fun g hg => (ho1.lt g hg).1)
                have ho3 : w3.ownsRow w.heap.size 3 1 v' (costN cost ps (k + 1)) (costTo cost ps (k + 1)) := by
                  rw [HS.out.1, HS.out.2, HE.out]; exact hown'
                clear hown' hgrow ho1 hbel hb1
                go_wp2_with fail
                go_roundw
                case rel => exact ⟨k + 1, by omega, by go_num, ho3, hb3, fun j hj hj2 => by rcases Nat.lt_succ_iff_lt_or_eq.1 hj2 with h | h; exact HO.out j hj h; subst h; exact HF.out⟩
                case measure => simp [intOf]; omega
          · have HF := Lib.hid (Cd.costs_form HC.out (Cd.not_all hlt (show Cd.fine cost ps[k] = false by rw [HP.out]; simp [Cd.fine, HK.out, Cd.costOk]; intro h; omega)))
            rcases hx with rfl | rfl
            all_goals
              go_wp2_with fail
              go_ret2
              exact ⟨by rw [HF.out]; rfl, hb1⟩
      · obtain rfl : k = ps.length := by omega
        have HF := Lib.hid (Cd.all_get (p := Cd.fine cost) (fun j hj => HO.out j hj hj))
        have HG := Lib.hid (Cd.costList_ok HF.out)
        have hcl := costN_le cost ps ps.length (Nat.le_refl _)
        have HS1 := Lib.hid (Cd.costs_sum HC.out HF.out)
        have HS2 := Lib.hid (Cd.costs_many HC.out HF.out)
        unfold costTo costN at hown
        unfold costN at hcl
        rw [List.take_length] at hown hcl
        generalize Cd.costList cost ps = cl at hown HG hcl HS1 HS2
        obtain ⟨A', c', hv, hn, hI'⟩ := Ints.of_own hown
        subst hv
        have HI' := Lib.hid hI'
        clear hI' hown hn HO
        go_wp2_with fail
        refine (safe_add A' c' cl _ (by omega) HI'.out).mono ?_
        rintro e w2 ⟨rfl, h2⟩
        have hb2 := hbel.trans (h2.mono hbel.size)
        clear h2 hbel
        by_cases hs : Safe.sum cl ≤ Safe.top
        · rw [Safe.add_sum HG.out hs]
          have HF2 := Lib.hid (HS1.out hs)
          clear hs
          go_wp2_with fail
          go_ret2
          exact ⟨by rw [HF2.out]; rfl, hb2⟩
        · rw [Safe.add_big HG.out cl.length (by rw [List.take_length]; omega)]
          have HF2 := Lib.hid (HS2.out (by omega))
          clear hs
          go_wp2_with fail
          go_ret2
          exact ⟨by rw [HF2.out]; rfl, hb2⟩
  · have hfin := Lib.hid (Cd.costs_bad hck cost)
    have hne : (Cd.check ps != 0) = true := by simp [hck]
    clear hck
    go_enter Tryd.func16, Tryd.ntmps16
    go_wp2_with fail
    refine (code_check A c ps _ hl HI.out).mono ?_
    rintro e w1 ⟨rfl, h1⟩
    go_wp2_with fail
    go_ret2
    exact ⟨by rw [hfin.out]; rfl, h1⟩

/-- The cells of pairs, one behind the other. -/
def pairCells (ps : List (Int × Int)) : List Value := ps.flatMap fun p => [.int .i64 p.1, .int .i64 p.2]
theorem pairCells_length (ps : List (Int × Int)) : (pairCells ps).length = ps.length * 2 := by
  induction ps with
  | nil => rfl
  | cons x r ih => simp [pairCells] at ih ⊢; omega
theorem pairCells_append (a b : List (Int × Int)) : pairCells (a ++ b) = pairCells a ++ pairCells b := by simp [pairCells]
theorem pairCells_at (ps : List (Int × Int)) : ∀ (k : Nat) (h : k < ps.length), (pairCells ps)[k * 2]? = some (.int .i64 ps[k].1) ∧ (pairCells ps)[k * 2 + 1]? = some (.int .i64 ps[k].2) := by
  induction ps with
  | nil => intro k h; simp at h
  | cons x r ih =>
    intro k h
    rcases k with _ | k
    · simp [pairCells]
    · have := ih k (by simpa using h)
      have e1 : (k + 1) * 2 = k * 2 + 1 + 1 := by omega
      rw [e1]
      simpa [pairCells] using this
theorem Pairs.of_own {w : World} {base : Nat} {e : TypeId} {v : Value} {n : Nat} {ps : List (Int × Int)} (h : w.ownsRow base e 2 v n (pairCells ps)) :
    ∃ A c, v = .slice A ps.length c ∧ n = ps.length ∧ Pairs w A ps := by
  have hn : ps.length = n := by have := h.1; rw [pairCells_length] at this; omega
  subst hn
  rcases h.2 with ⟨rfl, h0⟩ | ⟨g, cap, cur, rfl, hb, hh, r1, r2, r3, r4⟩
  · have : ps = [] := List.eq_nil_of_length_eq_zero h0
    subst this
    exact ⟨none, 0, rfl, rfl, Pairs.nil⟩
  · refine ⟨_, cap, rfl, rfl, fun k hk => ?_⟩
    have ⟨e1, e2⟩ := pairCells_at ps k hk
    have c1 : w.cell? ⟨g, 0 + k * 2, none⟩ = some (.int .i64 ps[k].1) := by rw [Nat.zero_add, h.cellAt (k * 2) (by omega)]; exact e1
    have c2 : w.cell? ⟨g, 0 + k * 2 + 1, none⟩ = some (.int .i64 ps[k].2) := by rw [Nat.zero_add, h.cellAt (k * 2 + 1) (by omega)]; exact e2
    exact ⟨g, 0, rfl, World.block_lt_of_cell? _ _ c1, c1, c2⟩

def groupCells (zs : List Int) (k : Nat) : List Value := pairCells (Cd.groupTo zs k)
theorem groupCells_zero (zs : List Int) : groupCells zs 0 = [] := rfl
theorem groupCells_succ (zs : List Int) (k : Nat) : groupCells zs (k + 1) = groupCells zs k ++ [.int .i64 (zs.getD (3 * k) 0), .int .i64 (zs.getD (3 * k + 1) 0 * 256 + zs.getD (3 * k + 2) 0)] := by
  unfold groupCells
  rw [Cd.groupTo_succ, pairCells_append]; rfl


def ParsePost (zs : List Int) (w : World) (e : Ending) (w' : World) : Prop :=
  ∃ A c, e = .returned (.tuple #[.slice A (Cd.parse zs).1.length c, .int .i64 (Cd.parse zs).2]) ∧ Pairs w' A (Cd.parse zs).1 ∧ Below w.heap.size w w'

set_option maxHeartbeats 1600000 in
theorem code_parse (A : Option Addr) (c : Nat) (zs : List Int) (w : World) (hl : zs.length ≤ 9223372036854775807) (hI : Ints .u8 w A zs) (hw : ∀ n ∈ zs, (Lit.int .u8 n).wf = true) :
    Calls Tryd.prog 14 #[.slice A zs.length c] w (ParsePost zs w) := by
  have HI := Lib.hid hI
  have HW := Lib.hid hw
  clear hI hw
  by_cases h3 : zs.length % 3 = 0
  · have hb3 : ((zs.length : Int) % 3 != 0) = false := by simp; omega
    by_cases hm : 65536 < zs.length / 3
    · have hfin := Lib.hid (Cd.parse_many h3 hm)
      clear h3
      go_enter Tryd.func14, Tryd.ntmps14
      go_wp2_with fail
      go_ret2
      exact ⟨none, 0, by rw [hfin.out]; rfl, by rw [hfin.out]; exact Pairs.nil, Below.refl _ _⟩
    · have hok := Lib.hid (Cd.parse_ok h3 hm)
      have hbad := Lib.hid (Cd.parse_bad h3 hm)
      have H3 := Lib.hid h3
      obtain ⟨i0, hi, hz0, hz1, hz2⟩ := info_parts instr_info
      clear h3
      go_enter Tryd.func14, Tryd.ntmps14
      go_wp2_with (at_make; refine wpList_make_own _ rfl _ _ 23 rfl w.heap.size 30 i0 (.agg #[.int .i64 0, .int .i64 0]) 2 Tryd.underlying23 hi hz0 hz1 _ _ _ (zs.length / 3) rfl rfl (by omega) ?b2 ?b3 (by omega) ?_)
      case b2 => rw [hz2]; omega
      case b3 => unfold maxLen; omega
      intro w2 hown hgrow
      have hb2 : Below w.heap.size w w2 := (Below.refl _ _).grown hgrow (Nat.le_refl _) (by simp)
      clear hgrow
      go_wp2_with fail
      go_loopw [4, 5] (fun v i wr => ∃ k : Nat, k ≤ zs.length / 3 ∧ i = .int .i64 (3 * k : Nat) ∧ wr.ownsRow w.heap.size 30 2 v k (groupCells zs k) ∧ Below w.heap.size w wr) (fun _ i _ => zs.length - (intOf i).toNat)
      case atStart => exact ⟨0, Nat.zero_le _, rfl, by rw [groupCells_zero]; exact hown, hb2⟩
      case round =>
        clear hown hb2
        obtain ⟨k, hk, rfl, hown, hbel⟩ := hrel
        by_cases hlt : k < zs.length / 3
        · have hl0 : 3 * k < zs.length := by omega
          have hl1 : 3 * k + 1 < zs.length := by omega
          have hl2 : 3 * k + 2 < zs.length := by omega
          have HG := Lib.hid (groupCells_succ zs k)
          have HW' := HW.out
          have ⟨q0, q1⟩ := wf_bd8 (HW' (zs.getD (3 * k) 0) (by simp [hl0]))
          have ⟨r0, r1⟩ := wf_bd8 (HW' (zs.getD (3 * k + 1) 0) (by simp [hl1]))
          have ⟨s0, s1⟩ := wf_bd8 (HW' (zs.getD (3 * k + 2) 0) (by simp [hl2]))
          obtain ⟨b, off, e0, hb, hc0⟩ := HI.out (3 * k) hl0
          replace hc0 := (hbel.cell (p := ⟨b, off + 3 * k, none⟩) hb).trans hc0
          obtain ⟨b', off', e1, _, hc1⟩ := HI.out.below hbel (Nat.le_refl _) (3 * k + 1) hl1
          obtain ⟨b'', off'', e2, _, hc2⟩ := HI.out.below hbel (Nat.le_refl _) (3 * k + 2) hl2
          subst e0
          injection e1 with e1; injection e1 with e1 e1'; subst e1; subst e1'
          injection e2 with e2; injection e2 with e2 e2'; subst e2; subst e2'
          clear HW'
          generalize zs.getD (3 * k) 0 = x0 at HG q0 q1 hc0
          generalize zs.getD (3 * k + 1) 0 = x1 at HG r0 r1 hc1
          generalize zs.getD (3 * k + 2) 0 = x2 at HG s0 s1 hc2
          generalize hik : 3 * k = i at hl0 hl1 hl2 hc0 hc1 hc2
          have HK := Lib.hid hik
          clear hik
          have i0' : (0 : Int) ≤ (i : Int) := Int.natCast_nonneg _
          have i1 : (i : Int) < (zs.length : Int) := by omega
          have i2 : (0 : Int) ≤ (i : Int) + 1 := by omega
          have i3 : (i : Int) + 1 < (zs.length : Int) := by omega
          have i4 : (0 : Int) ≤ (i : Int) + 2 := by omega
          have i5 : (i : Int) + 2 < (zs.length : Int) := by omega
          have ag : u4.ownBlock ≠ some b := fun h => by have := (hown.lt b h).1; omega
          have lw := World.block_lt_of_cell? wr _ hc0
          have hsz := hbel.size
          have n1 : ((i : Int) + 1).toNat = i + 1 := by omega
          have n2 : ((i : Int) + 2).toNat = i + 2 := by omega
          have v1 : IntKind.i64.wrap ((i : Int) + 1) = (i : Int) + 1 := IntWalk.i64_in _ (by omega)
          have v2 : IntKind.i64.wrap ((i : Int) + 2) = (i : Int) + 2 := IntWalk.i64_in _ (by omega)
          have c0 : IntKind.i64.wrap x0 = x0 := IntWalk.i64_in _ (by omega)
          have c1 : IntKind.i64.wrap x1 = x1 := IntWalk.i64_in _ (by omega)
          have c2 : IntKind.i64.wrap x2 = x2 := IntWalk.i64_in _ (by omega)
          have c3 : IntKind.i64.wrap (x1 * 256) = x1 * 256 := IntWalk.i64_in _ (by omega)
          have c4 := or_byte x1 x2 r0 r1 s0 s1
          go_wp2_with fail
          go_region_held3 (fun w' => w'.cell? ⟨b, off + i, none⟩ = some (.int .u8 x0) ∧ w'.cell? ⟨b, off + (i + 1), none⟩ = some (.int .u8 x1) ∧ w'.cell? ⟨b, off + (i + 2), none⟩ = some (.int .u8 x2)) (first | go_keep | (go_split_ands; refine ⟨?_, ?_, ?_⟩ <;> (rw [hgrow.cell_far _ (by simp; omega) (Ne.symm ag)]; assumption)))
            ((refine step_append_lies _ (by rfl) _ _ _ (by rfl) w.heap.size 30 i0 _ 2 16 Tryd.underlying23 hi hz0 hz1 hz2 rfl (by omega) u4 k (groupCells zs k) (by rfl) ((hown.alloc _).drew) ⟨wr.heap.size, 0, none⟩ 1 1 [.int .i64 x0, .int .i64 (x1 * 256 + x2)] (by rfl) (by rfl) (World.news_of_block (cs := #[.int .i64 x0, .int .i64 (x1 * 256 + x2)]) (t := 30) (fr := (0, 0)) (heap_alloc_new wr _)) (by simp [Value.oneCell']) (by omega) (by unfold maxLen; omega) (by omega) (by simp; omega) (wr.heap.size + 1) (by simp) ?_; intro gg cap w1 hown1 hgrow hat hlt1))
          have hb1 : Below w.heap.size w w1 := ((hbel.alloc hbel.size _).drew).grown hgrow (by simp; omega) (fun g hg => (hown.lt g hg).1)
          have ho1 : w1.ownsRow w.heap.size 30 2 (.slice (some ⟨gg, 0, none⟩) (k + 1) cap) (k + 1) (groupCells zs (k + 1)) := by rw [HG.out]; exact hown1
          clear hown1 hown hbel v1 v2 c0 c1 c2 c3 c4 n1 n2
          go_wp2_with fail
          go_roundw
          case rel => exact ⟨k + 1, by omega, by have := HK.out; go_num, ho1, hb1⟩
          case measure => simp [intOf]; omega
        · obtain rfl : k = zs.length / 3 := by omega
          have HL := Lib.hid (Cd.groupTo_length zs (zs.length / 3))
          have HK := Lib.hid (show 3 * (zs.length / 3) = zs.length by have := H3.out; omega)
          unfold groupCells at hown
          unfold Cd.group at hok hbad
          generalize Cd.groupTo zs (zs.length / 3) = gs at hown hok hbad HL
          obtain ⟨A', c', hv, hn, hI'⟩ := Pairs.of_own hown
          subst hv
          have HI' := Lib.hid hI'
          have hgl : gs.length ≤ 9223372036854775807 := by have := HL.out; omega
          clear hI' hown hn
          rw [HK.out]
          go_wp2_with fail
          refine (code_check A' c' gs _ hgl HI'.out).mono ?_
          rintro e w1 ⟨rfl, h1⟩
          have hb1 := hbel.trans (h1.mono hbel.size)
          by_cases hck : Cd.check gs = 0
          · have HF := Lib.hid (hok.out hck)
            rw [hck]
            clear hck
            go_wp2_with fail
            go_ret2
            exact ⟨A', c', by rw [HF.out]; rfl, by rw [HF.out]; exact HI'.out.below h1 (Nat.le_refl _), hb1⟩
          · have HF := Lib.hid (hbad.out hck)
            have hne : (Cd.check gs != 0) = true := by simp [hck]
            clear hck
            go_wp2_with fail
            go_ret2
            exact ⟨none, 0, by rw [HF.out]; rfl, by rw [HF.out]; exact Pairs.nil, hb1⟩
  · have hfin := Lib.hid (Cd.parse_short h3)
    have hb3 : ((zs.length : Int) % 3 != 0) = true := by simp; omega
    clear h3
    go_enter Tryd.func14, Tryd.ntmps14
    go_wp2_with fail
    go_ret2
    exact ⟨none, 0, by rw [hfin.out]; rfl, by rw [hfin.out]; exact Pairs.nil, Below.refl _ _⟩
end Go.Proofs.YtklngiikgnmdeaaDoor
