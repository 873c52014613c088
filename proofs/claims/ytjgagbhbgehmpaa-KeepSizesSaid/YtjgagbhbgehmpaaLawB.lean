/- The law's own bytes of layer 27: contracts. -/
import Derived.Test.YtjgagbhbgehmpaaLawK
import Derived.Deep.AppendLies
import Derived.Deep.RegionLaw
namespace Go.Proofs.Ytjgagbhbgehmpaa
open Go.RowKit

theorem reft_info : (Try.prog.info? 78).map (fun i => (i.zero, i.size, i.bytes)) = some (some (.agg #[.slice none 0 0, .slice none 0 0]), 2, 48) := by kernel_rfl
theorem row64_info : (Try.prog.info? 75).map (fun i => (i.zero, i.size, i.bytes)) = some (some (.slice none 0 0), 1, 24) := by kernel_rfl
theorem six_info : (Try.prog.info? 79).map (fun i => (i.zero, i.size, i.bytes)) = some (some (.agg #[.int .i64 0, .int .i64 0, .int .i64 0, .int .i64 0, .int .i64 0, .int .i64 0]), 6, 48) := by kernel_rfl

/-- A new row of numbers. -/
def NewI (t : TypeId) (zs : List Int) (w : World) (e : Ending) (w' : World) : Prop :=
  ∃ A c, e = .returned (.slice A zs.length c) ∧ w'.ownsRow w.heap.size t 1 (.slice A zs.length c) zs.length (zs.map (Value.int .i64)) ∧ Below w.heap.size w w'

set_option maxHeartbeats 1000000 in
theorem law_cells (S C : Option Addr) (c d : Nat) (t : Ten) (w : World) (hl : t.c.length ≤ 1000000) (hI : Ints .i64 w C t.c) :
    Calls Try.prog 31 #[.agg #[.slice S t.s.length c, .slice C t.c.length d]] w (NewI 2 t.c w) := by
  obtain ⟨i0, hi, hz0, hz1, hz2⟩ := info_parts i64_info
  have hb0 : Below w.heap.size w (w.alloc (.cells #[.slice S t.s.length c, .slice C t.c.length d] 48)) := (Below.refl _ _).alloc (Nat.le_refl _) _
  have HI := Lib.hid hI
  clear hI
  go_enter Try.func31, Try.ntmps31
  go_wp2_with fail
  go_loopw [3, 5, 9] (fun v _ i wr => ∃ k : Nat, k ≤ t.c.length ∧ i = .int .i64 k ∧ wr.ownsRow w.heap.size 2 1 v (t.c.take k).length ((t.c.take k).map (Value.int .i64)) ∧ Below w.heap.size w wr) (fun _ _ i _ => t.c.length - (intOf i).toNat)
  case atStart => exact ⟨0, Nat.zero_le _, rfl, World.ownsRow_nil _ _ _ _, hb0⟩
  case round =>
    clear hb0
    obtain ⟨k, hk, rfl, hown, hbel⟩ := hrel
    have hsz := hbel.size
    by_cases hlt : k < t.c.length
    · obtain ⟨b, off, rfl, hb, hc⟩ := HI.out.below hbel (Nat.le_refl _) k hlt
      have hnext := List.take_succ_eq_append_getElem hlt
      have hkl : (t.c.take k).length = k := by rw [List.length_take]; omega
      have hown2 := hown.alloc (.cells #[.int .i64 t.c[k]] 2)
      have hgd : t.c.getD k 0 = t.c[k] := by simp [hlt]
      rw [hgd] at hc
      have Hnext := Lib.hid hnext
      have Hgd := Lib.hid hgd
      have Hkl := Lib.hid hkl
      clear hnext hgd hkl
      generalize t.c[k] = x at *
      go_wp2_with (at_builtin; refine wpList_append_own _ rfl _ _ 75 rfl w.heap.size 2 i0 (.int .i64 0) 1 8 Try.underlying75 hi hz0 hz1 hz2 rfl (by decide) _ _ _ rfl hown2 ⟨wr.heap.size, 0, none⟩ 1 1 [.int .i64 x] rfl rfl ?c1 ?c2 ?c3 ?c4 ?c5 ?_)
      case c1 => exact one_new _ _ _
      case c2 => intro u hu; simp at hu; subst hu; rfl
      case c3 => unfold maxLen; have := Hkl.out; omega
      case c4 => have := Hkl.out; omega
      case c5 => simp; omega
      intro v' w3 hown3 hgrow _
      have hb3 : Below w.heap.size w w3 := (hbel.alloc hsz _).grown hgrow (by simp; omega) (fun g hg => (hown.lt g hg).1)
      have HO := Lib.hid (show w3.ownsRow w.heap.size 2 1 v' (t.c.take (k + 1)).length ((t.c.take (k + 1)).map (Value.int .i64)) by
        rw [Hnext.out, List.length_append, Hkl.out, List.map_append, List.map_take]
        exact hown3)
      clear hown3 hgrow hown hown2 hbel hc
      go_wp2_with fail
      go_roundw
      case rel => exact ⟨k + 1, by omega, by go_num, HO.out, hb3⟩
      case measure => simp [intOf]; omega
    · obtain rfl : k = t.c.length := by omega
      rw [List.take_length] at hown
      obtain ⟨A, cc, rfl, _, _⟩ := Ints.of_own hown
      have Hown := Lib.hid hown
      clear hown
      go_wp2_with fail
      go_ret
      exact ⟨A, cc, rfl, Hown.out, hbel⟩

/-- A tensor, its shape as it lies, its cells anew. -/
abbrev RefA := Ten × (Option Addr × Nat) × (Option Addr × Nat)
def RefA.cells (x : RefA) : List Value := [.slice x.2.1.1 x.1.s.length x.2.1.2, .slice x.2.2.1 x.1.c.length x.2.2.2]
def RefA.ok (x : RefA) (w : World) : Prop := Ints .i64 w x.2.2.1 x.1.c
abbrev RowA := List Int × (Option Addr × Nat)
def RowA.cells (x : RowA) : List Value := [.slice x.2.1 x.1.length x.2.2]
def RowA.ok (x : RowA) (w : World) : Prop := Ints .i64 w x.2.1 x.1
def metCells (m : Met) : List Value := [.int .i64 m.a, .int .i64 m.b, .int .i64 m.c, .int .i64 m.d, .int .i64 m.e, .int .i64 m.f]
theorem RefA.len (x : RefA) : x.cells.length = 2 := rfl
theorem RowA.len (x : RowA) : x.cells.length = 1 := rfl
theorem metCells_len (m : Met) : (metCells m).length = 6 := rfl

/-- What a row of the call's own holds, on its own block. -/
theorem own_on {w : World} {B : Nat} {e : TypeId} {A : Option Addr} {c : Nat} {zs : List Int} (h : w.ownsRow B e 1 (.slice A zs.length c) zs.length (zs.map (Value.int .i64))) : On (fun b => ∃ a, A = some a ∧ b = a.block) w (fun w => Ints .i64 w A zs) := fun w' hw => by
  have h' : w'.ownsRow B e 1 (.slice A zs.length c) zs.length (zs.map (Value.int .i64)) := ownsRow_heap h fun g hg => by
    cases A with
    | none => simp [Value.ownBlock] at hg
    | some a => simp [Value.ownBlock] at hg; exact hw g ⟨a, rfl, hg.symm⟩
  obtain ⟨A', c', hv, _, hI⟩ := Ints.of_own h'
  injection hv with hA
  subst hA
  exact hI

theorem refs_tens {B C : Nat} {w : World} {e : TypeId} {A : Option Addr} {cap : Nat} {L : List RefA} (h : OwnRow B C w e 2 (.slice A L.length cap) RefA.cells RefA.ok L) (ho : ∀ x ∈ L, Ints .i64 w x.2.1.1 x.1.s) (hs : ∀ x ∈ L, x.1.s.length ≤ 1000000 ∧ x.1.c.length ≤ 1000000) : Tens w A (L.map (·.1)) := fun j hj => by
  rw [List.length_map] at hj
  obtain ⟨b, cap', hv', _, _, _, hc⟩ := OwnRow.at_ h RefA.len hj
  injection hv' with hA
  have h0 := hc 0 (by omega)
  have h1 := hc 1 (by omega)
  have hk := h.now L[j] (List.getElem_mem hj)
  have hl := hs L[j] (List.getElem_mem hj)
  rw [List.getElem_map]
  exact ⟨b, 0, _, _, _, _, hA, World.block_lt_of_cell? _ _ h0, by rw [Nat.zero_add]; exact h0, by rw [Nat.zero_add]; exact h1, ⟨ho _ (List.getElem_mem hj), hk⟩, by omega, by omega⟩
theorem rows_rowsI {B C : Nat} {w : World} {e : TypeId} {A : Option Addr} {cap : Nat} {L : List RowA} (h : OwnRow B C w e 1 (.slice A L.length cap) RowA.cells RowA.ok L) : RowsI w A (L.map (·.1)) := fun j hj => by
  rw [List.length_map] at hj
  obtain ⟨b, cap', hv', _, _, _, hc⟩ := OwnRow.at_ h RowA.len hj
  injection hv' with hA
  have h0 := hc 0 (by omega)
  have hk := h.now L[j] (List.getElem_mem hj)
  rw [List.getElem_map]
  exact ⟨b, 0, _, _, hA, World.block_lt_of_cell? _ _ h0, by rw [Nat.zero_add]; rw [Nat.mul_one, Nat.add_zero] at h0; exact h0, hk⟩
theorem mets_of {B C : Nat} {w : World} {e : TypeId} {A : Option Addr} {cap : Nat} {L : List Met} (h : OwnRow B C w e 6 (.slice A L.length cap) metCells (fun _ _ => True) L) : Mets w A L := fun j hj => by
  obtain ⟨b, cap', hv', _, _, _, hc⟩ := OwnRow.at_ h metCells_len hj
  injection hv' with hA
  have h0 := hc 0 (by omega)
  refine ⟨b, 0, hA, World.block_lt_of_cell? _ _ h0, ?_, ?_, ?_, ?_, ?_, ?_⟩
  all_goals rw [Nat.zero_add]
  · exact h0
  · exact hc 1 (by omega)
  · exact hc 2 (by omega)
  · exact hc 3 (by omega)
  · exact hc 4 (by omega)
  · exact hc 5 (by omega)

set_option maxHeartbeats 4000000 in
set_option maxRecDepth 100000 in
theorem law_bytes (P V M : Option Addr) (c1 c2 c3 : Nat) (s : Sav) (w : World) (ht : s.tiny) (hS : SavR w P V M s) :
    Calls Try.prog 13 #[.agg #[.slice P s.p.length c1, .slice V s.v.length c2, .slice M s.m.length c3]] w fun e w' => e = .returned (.string (strOfNums (Kp.enc s))) ∧ Below w.heap.size w w' := by
  obtain ⟨ip, hip, hp0, hp1, hp2⟩ := info_parts reft_info
  obtain ⟨iv, hiv, hv0, hv1, hv2⟩ := info_parts row64_info
  obtain ⟨im, him, hm0, hm1, hm2⟩ := info_parts six_info
  have htt := ht
  obtain ⟨ht1, ht2, ht3, ht4, ht5⟩ := ht
  have hk0 := Blk.new w 27 #[.slice P s.p.length c1, .slice V s.v.length c2, .slice M s.m.length c3]
  have hb0 : Below w.heap.size w (w.alloc (.cells #[.slice P s.p.length c1, .slice V s.v.length c2, .slice M s.m.length c3] 27)) := (Below.refl _ _).alloc (Nat.le_refl _) _
  have hN0 := OwnRow.nil (α := RefA) (w.heap.size + 1) (w.alloc (.cells #[.slice P s.p.length c1, .slice V s.v.length c2, .slice M s.m.length c3] 27)) 78 2 RefA.cells RefA.ok
  have HS := Lib.hid hS
  have Hk0 := Lib.hid hk0
  have Htt := Lib.hid htt
  have Ht4 := Lib.hid ht4
  have Ht5 := Lib.hid ht5
  have HN0 := Lib.hid hN0
  clear hS hk0 htt ht4 ht5 hN0
  go_enter Try.func13, Try.ntmps13
  go_wp2_with fail
  go_loopw [3, 7, 16] (fun v _ i wr => ∃ (k : Nat) (L : List RefA) (A : Option Addr) (cap : Nat), k ≤ s.p.length ∧ i = .int .i64 k ∧ v = .slice A L.length cap ∧ L.map (·.1) = s.p.take k ∧ (∀ x ∈ L, Ints .i64 w x.2.1.1 x.1.s) ∧ OwnRow (w.heap.size + 1) wr.heap.size wr 78 2 (.slice A L.length cap) RefA.cells RefA.ok L ∧ Blk wr w.heap.size 27 #[.slice P s.p.length c1, .slice V s.v.length c2, .slice M s.m.length c3] ∧ Below w.heap.size w wr) (fun _ _ i _ => s.p.length - (intOf i).toNat)
  case atStart => exact ⟨0, [], none, 0, Nat.zero_le _, rfl, rfl, rfl, by simp, HN0.out, Hk0.out, hb0⟩
  case round =>
    clear HN0 Hk0 hb0
    obtain ⟨k, L, A, cap, hk, rfl, rfl, hL, hold, hN, hkb, hbel⟩ := hrel
    have hsz := hkb.lt
    have hLl : L.length = k := by have := congrArg List.length hL; simp at this; omega
    by_cases hlt : k < s.p.length
    · obtain ⟨b, off, S, cS, C, dC, rfl, hb, e0, e1, hTR, _, _⟩ := HS.out.1 k hlt
      have e0' := (hbel.cell (p := ⟨b, off + k * 2, none⟩) hb).trans e0
      have e1' := (hbel.cell (p := ⟨b, off + k * 2 + 1, none⟩) hb).trans e1
      have hsm := Ht4.out s.p[k] (List.getElem_mem hlt)
      have hnext := List.take_succ_eq_append_getElem hlt
      have HL := Lib.hid hL
      have Hold := Lib.hid hold
      have HLl := Lib.hid hLl
      have Hnext := Lib.hid hnext
      have HTR := Lib.hid hTR
      clear hL hold hLl hnext hTR
      generalize s.p[k] = x at *
      obtain ⟨hx1, hx2⟩ := hsm
      have hk1 := (hkb.alloc (.cells #[.slice S x.s.length cS, .slice C x.c.length dC] 48)).drew
      have hb1 := (hbel.alloc hbel.size (.cells #[.slice S x.s.length cS, .slice C x.c.length dC] 48)).drew
      have hN1 := OwnRow.fr (S := fun _ => False) hN (((Fr.refl (fun _ => False) wr).alloc (.cells #[.slice S x.s.length cS, .slice C x.c.length dC] 48)).drew) (fun _ _ _ h => h)
      have hq1 := (Blk.new wr 48 #[.slice S x.s.length cS, .slice C x.c.length dC]).drew
      have hcall := law_cells S C cS dC x _ (by omega) (HTR.out.2.below hb1 (Nat.le_refl _))
      have Hk1 := Lib.hid hk1
      have HN1 := Lib.hid hN1
      have Hq1 := Lib.hid hq1
      have Hcall := Lib.hid hcall
      clear hk1 hN1 hq1 hcall
      clear hkb hN e0 e1
      have hwl : wr.heap.size < (wr.alloc (.cells #[.slice S x.s.length cS, .slice C x.c.length dC] 48)).drew.heap.size := by simp
      have hLb : L.length ≤ 800 := by have := HLl.out; omega
      go_wp2_with fail
      go_region_held3 (fun w' => w'.cell? ⟨wr.heap.size, 0, none⟩ = some (.slice S x.s.length cS) ∧ w'.cell? ⟨wr.heap.size, 1, none⟩ = some (.slice C x.c.length dC)) (first | go_keep | exact ⟨y0, y1⟩)
        (first
          | (go_at_call 31; refine Hcall.out.mono ?_; rintro e w3 ⟨A3, d3, rfl, hown3, h3⟩; have hq3 := Hq1.out.below h3 Hq1.out.lt; have z0 := hq3.cell 0; have z1 := hq3.cell 1; simp at z0 z1; have hq3l := hq3.lt)
          | (refine step_append_lies _ (by rfl) _ _ _ (by rfl) (w.heap.size + 1) 78 ip _ 2 48 Try.underlying72 hip hp0 hp1 hp2 rfl (by omega) (.slice A L.length cap) L.length (L.flatMap RefA.cells) (by rfl) (OwnRow.fr (S := fun _ => False) HN1.out ((Fr.of_below h3 (fun b hb _ => hb)).alloc _) (fun _ _ _ h => h)).1 ⟨w3.heap.size, 0, none⟩ 1 1 [.slice S x.s.length cS, .slice A3 x.c.length d3] (by rfl) (by rfl) (World.news_of_block (cs := #[.slice S x.s.length cS, .slice A3 x.c.length d3]) (t := 78) (fr := (0, 0)) (heap_alloc_new w3 _)) (by simp [Value.oneCell']) (by omega) (by unfold maxLen; omega) (by omega) (by have := h3.size; simp at this; simp; omega) (w3.heap.size + 1) (by simp) ?_; intro g7 cap7 w7 hown7 hg7 hat7 hlt7; have y0 : w7.cell? ⟨wr.heap.size, 0, none⟩ = some (.slice S x.s.length cS) := hg7.cell (by rw [World.cell?_alloc_lt w3 _ _ (by simp; omega)]; exact z0) (fun e => by have := HN1.out.2.1 _ e.symm; simp at this); have y1 : w7.cell? ⟨wr.heap.size, 1, none⟩ = some (.slice C x.c.length dC) := hg7.cell (by rw [World.cell?_alloc_lt w3 _ _ (by simp; omega)]; exact z1) (fun e => by have := HN1.out.2.1 _ e.symm; simp at this)))
      have hN4 := OwnRow.fr (S := fun _ => False) HN1.out ((Fr.of_below h3 (fun b hb _ => hb)).alloc (.cells #[.slice S x.s.length cS, .slice A3 x.c.length d3] 78)) (fun _ _ _ h => h)
      have hob : ∀ q, (Value.slice A L.length cap).ownBlock = some q → w.heap.size + 1 ≤ q ∧ q < wr.heap.size := fun q hq => ⟨(hN4.1.lt q hq).1, hN4.2.1 q hq⟩
      have hw3 : wr.heap.size + 1 ≤ w3.heap.size := by have := h3.size; simp at this; omega
      have hN7 := OwnRow.push (x := ((x, (S, cS), (A3, d3)) : RefA)) hN4 hown7 hg7 (by rcases hat7 with h | h; exact .inl h.symm; right; rw [h]; simp [Value.ownBlock]) (F := fun q => ∃ a, A3 = some a ∧ q = a.block) (own_on (hown3.alloc _)) (fun q hq => by
        obtain ⟨a, ha, rfl⟩ := hq
        have h1 := hown3.lt a.block (by rw [ha]; rfl)
        simp at h1
        refine ⟨by omega, by simp; omega, fun e => ?_⟩
        have := hob _ e.symm
        omega)
      have hS7 := Fr.of_grown (S := fun b => w.heap.size + 1 ≤ b) hg7 (fun k e _ => (hob k e).1)
      have hk7 := hS7.blk ((Hk1.out.below h3 Hk1.out.lt).alloc (.cells #[.slice S x.s.length cS, .slice A3 x.c.length d3] 78)) (by omega)
      have hb7 : Below w.heap.size w w7 := ((hb1.trans (h3.mono hb1.size)).alloc (by omega) (.cells #[.slice S x.s.length cS, .slice A3 x.c.length d3] 78)).trans (hS7.below (fun b e => by omega) (by simp; omega))
      have hlen7 : L.length + 1 = (L ++ [((x, (S, cS), (A3, d3)) : RefA)]).length := by simp
      have HL7 := Lib.hid (show (L ++ [((x, (S, cS), (A3, d3)) : RefA)]).map (·.1) = s.p.take (k + 1) by rw [Hnext.out, List.map_append, HL.out]; rfl)
      have HO7 := Lib.hid (show ∀ y ∈ L ++ [((x, (S, cS), (A3, d3)) : RefA)], Ints .i64 w y.2.1.1 y.1.s by
        intro y hy
        rcases List.mem_append.1 hy with hy | hy
        · exact Hold.out y hy
        · rw [List.mem_singleton] at hy; subst hy; exact HTR.out.1)
      have HN7 := Lib.hid (show OwnRow (w.heap.size + 1) w7.heap.size w7 78 2 (.slice (some ⟨g7, 0, none⟩) (L ++ [((x, (S, cS), (A3, d3)) : RefA)]).length cap7) RefA.cells RefA.ok (L ++ [((x, (S, cS), (A3, d3)) : RefA)]) by rw [← hlen7]; exact hN7)
      have HV7 := Lib.hid (show (Value.slice (some ⟨g7, 0, none⟩) (L.length + 1) cap7) = .slice (some ⟨g7, 0, none⟩) (L ++ [((x, (S, cS), (A3, d3)) : RefA)]).length cap7 by rw [hlen7])
      have Hk7 := Lib.hid hk7
      clear hk7
      clear hN4 hN7 hob hS7 hown7 hg7 hat7 hlt7 hown3 h3 hq3 z0 z1 y0 y1 hlen7 e0' e1' hb1 HN1 Hk1 Hq1 Hcall hwl hbel
      generalize L ++ [((x, (S, cS), (A3, d3)) : RefA)] = L7 at *
      go_wp2_with fail
      go_roundw
      case rel => exact ⟨k + 1, L7, some ⟨g7, 0, none⟩, cap7, by omega, by go_num, HV7.out, HL7.out, HO7.out, HN7.out, Hk7.out, hb7⟩
      case measure => simp [intOf]; omega
    · obtain rfl : k = s.p.length := by omega
      rw [List.take_length] at hL
      have g1 := hkb.cell 1
      simp at g1
      have hV0 := OwnRow.nil (α := RowA) wr.heap.size wr 75 1 RowA.cells RowA.ok
      obtain ⟨C, hC⟩ : ∃ C, C = wr.heap.size := ⟨_, rfl⟩
      rw [← hC] at hN hsz hV0
      have HCC := Lib.hid hC
      have HN := Lib.hid hN
      have HV0 := Lib.hid hV0
      have Hkb := Lib.hid hkb
      have HL := Lib.hid hL
      have Hold := Lib.hid hold
      clear hN hV0 hkb hL hold
      clear hLl hC
      go_wp2_with fail
      go_loopw [4, 9, 33] (fun v _ i wv => ∃ (k : Nat) (LV : List RowA) (A2 : Option Addr) (cap2 : Nat), k ≤ s.v.length ∧ i = .int .i64 k ∧ v = .slice A2 LV.length cap2 ∧ LV.map (·.1) = (s.v.take k).map (·.c) ∧ OwnRow (w.heap.size + 1) C wv 78 2 (.slice A L.length cap) RefA.cells RefA.ok L ∧ OwnRow C wv.heap.size wv 75 1 (.slice A2 LV.length cap2) RowA.cells RowA.ok LV ∧ Blk wv w.heap.size 27 #[.slice P s.p.length c1, .slice V s.v.length c2, .slice M s.m.length c3] ∧ Below w.heap.size w wv) (fun _ _ i _ => s.v.length - (intOf i).toNat)
      case atStart => exact ⟨0, [], none, 0, Nat.zero_le _, rfl, rfl, rfl, HN.out, by rw [← HCC.out]; exact HV0.out, Hkb.out, hbel⟩
      case round =>
        clear HN HV0 Hkb hbel g1 HCC
        obtain ⟨wo, rfl⟩ : ∃ wo : World, wo = wr := ⟨_, rfl⟩
        obtain ⟨k, LV, A2, cap2, hk, rfl, rfl, hLV, hN, hV, hkb, hbel⟩ := hrel
        have hCw := hN.2.2.1
        have hLl : LV.length = k := by have := congrArg List.length hLV; simp at this; omega
        by_cases hlt : k < s.v.length
        · obtain ⟨b, off, S, cS, C', dC, rfl, hb, e0, e1, hTR, _, _⟩ := HS.out.2.1 k hlt
          have e0' := (hbel.cell (p := ⟨b, off + k * 2, none⟩) hb).trans e0
          have e1' := (hbel.cell (p := ⟨b, off + k * 2 + 1, none⟩) hb).trans e1
          have hsm := Ht5.out s.v[k] (List.getElem_mem hlt)
          have hnext := List.take_succ_eq_append_getElem hlt
          have HLV := Lib.hid hLV
          have HLl := Lib.hid hLl
          have Hnext := Lib.hid hnext
          have HTR := Lib.hid hTR
          clear hLV hLl hnext hTR
          generalize s.v[k] = x at *
          obtain ⟨hx1, hx2⟩ := hsm
          have hk1 := hkb.alloc (.cells #[.slice S x.s.length cS, .slice C' x.c.length dC] 48)
          have hb1 := hbel.alloc hbel.size (.cells #[.slice S x.s.length cS, .slice C' x.c.length dC] 48)
          have hN1 := OwnRow.fr (S := fun _ => False) hN ((Fr.refl (fun _ => False) wo).alloc (.cells #[.slice S x.s.length cS, .slice C' x.c.length dC] 48)) (fun _ _ _ h => h)
          have hV1 := OwnRow.fr (S := fun _ => False) hV ((Fr.refl (fun _ => False) wo).alloc (.cells #[.slice S x.s.length cS, .slice C' x.c.length dC] 48)) (fun _ _ _ h => h)
          have Hk1 := Lib.hid hk1
          have HN1 := Lib.hid hN1
          have HV1 := Lib.hid hV1
          clear hk1 hN1 hV1
          clear hkb hN hV e0 e1
          go_wp2_with fail
          refine (law_cells S C' cS dC x _ (by omega) (HTR.out.2.below hb1 (Nat.le_refl _))).mono ?_
          rintro e w3 ⟨A3, d3, rfl, hown3, h3⟩
          have hw3 : wo.heap.size + 1 ≤ w3.heap.size := by have := h3.size; simp at this; omega
          have hN4 := OwnRow.fr (S := fun _ => False) HN1.out ((Fr.of_below h3 (fun b hb _ => hb)).alloc (.cells #[.slice A3 x.c.length d3] 75)) (fun _ _ _ h => h)
          have hV4 := OwnRow.fr (S := fun _ => False) HV1.out ((Fr.of_below h3 (fun b hb _ => hb)).alloc (.cells #[.slice A3 x.c.length d3] 75)) (fun _ _ _ h => h)
          have hk4 := (Hk1.out.below h3 Hk1.out.lt).alloc (.cells #[.slice A3 x.c.length d3] 75)
          have hb4 := (hb1.trans (h3.mono hb1.size)).alloc (by omega) (.cells #[.slice A3 x.c.length d3] 75)
          have hown4 := hown3.alloc (.cells #[.slice A3 x.c.length d3] 75)
          have hol := hown3.lt
          have hLb : LV.length ≤ 800 := by have := HLl.out; omega
          have HN4 := Lib.hid hN4
          have HV4 := Lib.hid hV4
          have Hk4 := Lib.hid hk4
          have Hown4 := Lib.hid hown4
          have Hol := Lib.hid hol
          clear hN4 hV4 hk4 hown4 hol
          clear hown3 h3 HN1 HV1 Hk1 hb1 e0' e1'
          go_wp2_with (at_builtin; refine wpList_append_own_at _ rfl _ _ 73 rfl C 75 iv (.slice none 0 0) 1 24 Try.underlying73 hiv hv0 hv1 hv2 rfl (by decide) _ LV.length (LV.flatMap RowA.cells) rfl HV4.out.1 ⟨w3.heap.size, 0, none⟩ 1 1 [.slice A3 x.c.length d3] rfl rfl ?c1 ?c2 ?c3 ?c4 ?c5 ?_)
          case c1 => exact one_new _ _ _
          case c2 => intro u hu; simp at hu; subst hu; rfl
          case c3 => unfold maxLen; omega
          case c4 => omega
          case c5 => simp; omega
          intro v7 w7 hown7 hg7 _ hat7
          have hs4 : w3.heap.size + 1 = (w3.alloc (.cells #[.slice A3 x.c.length d3] 75)).heap.size := by simp
          have hob : ∀ q, (Value.slice A2 LV.length cap2).ownBlock = some q → C ≤ q ∧ q < wo.heap.size := fun q hq => ⟨(HV4.out.1.lt q hq).1, HV4.out.2.1 q hq⟩
          have hV7 := OwnRow.push (x := ((x.c, (A3, d3)) : RowA)) HV4.out hown7 hg7 (by rcases hat7 with h | h; exact .inl h; right; rw [h, ← hs4]) (F := fun q => ∃ a, A3 = some a ∧ q = a.block) (own_on Hown4.out) (fun q hq => by
            obtain ⟨a, ha, rfl⟩ := hq
            have h1 := Hol.out a.block (by rw [ha]; rfl)
            simp at h1
            refine ⟨by omega, by simp; omega, fun e => ?_⟩
            have := hob _ e.symm
            omega)
          obtain ⟨A7, cap7, rfl, _⟩ := OwnRow.form hV7
          have hS7 := Fr.of_grown (S := fun b => C ≤ b) hg7 (fun k e _ => (hob k e).1)
          have hk7 := hS7.blk Hk4.out (by omega)
          have hN7 := OwnRow.fr HN4.out hS7 (fun b _ h e => by omega)
          have hb7 := hb4.trans (hS7.below (B := w.heap.size) (fun b e => by omega) (by omega))
          have HL7 := Lib.hid (show (LV ++ [((x.c, (A3, d3)) : RowA)]).map (·.1) = (s.v.take (k + 1)).map (·.c) by rw [Hnext.out, List.map_append, List.map_append, HLV.out]; rfl)
          have Hk7 := Lib.hid hk7
          have HN7 := Lib.hid hN7
          have HV7 := Lib.hid hV7
          clear hk7 hN7 hV7
          clear hob hS7 hown7 hg7 hat7 HN4 HV4 Hk4 hb4 Hown4 Hol hs4 hbel
          generalize LV ++ [((x.c, (A3, d3)) : RowA)] = L7 at *
          go_wp2_with fail
          go_roundw
          case rel => exact ⟨k + 1, L7, A7, cap7, by omega, by go_num, rfl, HL7.out, HN7.out, HV7.out, Hk7.out, hb7⟩
          case measure => simp [intOf]; omega
        · obtain rfl : k = s.v.length := by omega
          rw [List.take_length] at hLV
          have g2 := hkb.cell 2
          simp at g2
          have hM0 := OwnRow.nil (α := Met) wo.heap.size wo 79 6 metCells (fun _ _ => True)
          obtain ⟨D, hD⟩ : ∃ D, D = wo.heap.size := ⟨_, rfl⟩
          rw [← hD] at hV hCw hM0
          have HDD := Lib.hid hD
          have HN := Lib.hid hN
          have HV := Lib.hid hV
          have HM0 := Lib.hid hM0
          have Hkb := Lib.hid hkb
          have HLV := Lib.hid hLV
          clear hN hV hM0 hkb hLV
          clear hLl hD
          go_wp2_with fail
          go_loopw [5, 11, 46] (fun v _ i wv => ∃ (k : Nat) (A4 : Option Addr) (cap4 : Nat), k ≤ s.m.length ∧ i = .int .i64 k ∧ v = .slice A4 (s.m.take k).length cap4 ∧ OwnRow (w.heap.size + 1) C wv 78 2 (.slice A L.length cap) RefA.cells RefA.ok L ∧ OwnRow C D wv 75 1 (.slice A2 LV.length cap2) RowA.cells RowA.ok LV ∧ OwnRow D wv.heap.size wv 79 6 (.slice A4 (s.m.take k).length cap4) metCells (fun _ _ => True) (s.m.take k) ∧ Below w.heap.size w wv) (fun _ _ i _ => s.m.length - (intOf i).toNat)
          case atStart => exact ⟨0, none, 0, Nat.zero_le _, rfl, rfl, HN.out, HV.out, by rw [← HDD.out]; exact HM0.out, hbel⟩
          case round =>
            clear HN HV HM0 Hkb hbel g2 HDD
            obtain ⟨wp, rfl⟩ : ∃ wp : World, wp = wr := ⟨_, rfl⟩
            obtain ⟨k, A4, cap4, hk, rfl, rfl, hN, hV, hM, hbel⟩ := hrel
            have hDw := hV.2.2.1
            have hkl : (s.m.take k).length = k := by rw [List.length_take]; omega
            by_cases hlt : k < s.m.length
            · obtain ⟨b, off, rfl, hb, e0, e1, e2, e3, e4, e5⟩ := HS.out.2.2.below hbel (Nat.le_refl _) k hlt
              have hnext := List.take_succ_eq_append_getElem hlt
              have Hnext := Lib.hid hnext
              have Hkl := Lib.hid hkl
              clear hnext hkl
              generalize s.m[k] = x at *
              have hT2 := ((Fr.refl (fun _ => False) wp).alloc (.cells #[.int .i64 x.a, .int .i64 x.b, .int .i64 x.c, .int .i64 x.d, .int .i64 x.e, .int .i64 x.f] 54)).alloc (.cells #[.int .i64 x.a, .int .i64 x.b, .int .i64 x.c, .int .i64 x.d, .int .i64 x.e, .int .i64 x.f] 79)
              have hN1 := OwnRow.fr hN hT2 (fun _ _ _ h => h)
              have hV1 := OwnRow.fr hV hT2 (fun _ _ _ h => h)
              have hM1 := OwnRow.fr hM hT2 (fun _ _ _ h => h)
              have hb1 := (hbel.alloc hbel.size (.cells #[.int .i64 x.a, .int .i64 x.b, .int .i64 x.c, .int .i64 x.d, .int .i64 x.e, .int .i64 x.f] 54)).alloc (by have := hbel.size; simp; omega) (.cells #[.int .i64 x.a, .int .i64 x.b, .int .i64 x.c, .int .i64 x.d, .int .i64 x.e, .int .i64 x.f] 79)
              have hd1 := Blk.new (wp.alloc (.cells #[.int .i64 x.a, .int .i64 x.b, .int .i64 x.c, .int .i64 x.d, .int .i64 x.e, .int .i64 x.f] 54)) 79 #[.int .i64 x.a, .int .i64 x.b, .int .i64 x.c, .int .i64 x.d, .int .i64 x.e, .int .i64 x.f]
              rw [World.size_alloc] at hd1
              have HN1 := Lib.hid hN1
              have HV1 := Lib.hid hV1
              have HM1 := Lib.hid hM1
              have Hd1 := Lib.hid hd1
              clear hN1 hV1 hM1 hd1
              clear hN hV hM hT2
              go_wp2_with (at_builtin; refine wpList_append_own_at _ rfl _ _ 74 rfl D 79 im (.agg #[.int .i64 0, .int .i64 0, .int .i64 0, .int .i64 0, .int .i64 0, .int .i64 0]) 6 48 Try.underlying74 him hm0 hm1 hm2 rfl (by decide) _ (s.m.take k).length ((s.m.take k).flatMap metCells) rfl HM1.out.1 ⟨wp.heap.size + 1, 0, none⟩ 1 1 [.int .i64 x.a, .int .i64 x.b, .int .i64 x.c, .int .i64 x.d, .int .i64 x.e, .int .i64 x.f] rfl rfl ?c1 ?c2 ?c3 ?c4 ?c5 ?_)
              case c1 => exact World.news_of_block (cs := #[.int .i64 x.a, .int .i64 x.b, .int .i64 x.c, .int .i64 x.d, .int .i64 x.e, .int .i64 x.f]) Hd1.out
              case c2 => intro u hu; simp at hu; rcases hu with rfl | rfl | rfl | rfl | rfl | rfl <;> rfl
              case c3 => unfold maxLen; have := Hkl.out; omega
              case c4 => have := Hkl.out; omega
              case c5 => simp; omega
              intro v7 w7 hown7 hg7 _ hat7
              have hs4 : wp.heap.size + 1 + 1 = ((wp.alloc (.cells #[.int .i64 x.a, .int .i64 x.b, .int .i64 x.c, .int .i64 x.d, .int .i64 x.e, .int .i64 x.f] 54)).alloc (.cells #[.int .i64 x.a, .int .i64 x.b, .int .i64 x.c, .int .i64 x.d, .int .i64 x.e, .int .i64 x.f] 79)).heap.size := by simp
              have hob : ∀ q, (Value.slice A4 (s.m.take k).length cap4).ownBlock = some q → D ≤ q := fun q hq => (HM1.out.1.lt q hq).1
              have hM7 := OwnRow.push (x := x) HM1.out (by first | exact hown7 | (rw [Hkl.out]; exact hown7)) (by first | exact hg7 | (rw [Hkl.out]; exact hg7)) (by rcases hat7 with h | h; (left; first | exact h | (rw [Hkl.out]; exact h)); right; rw [h, ← hs4]) (F := fun _ => False) (fun _ _ => trivial) (fun q hq => hq.elim)
              obtain ⟨A7, cap7, hv7, _⟩ := OwnRow.form hM7
              have hS7 := Fr.of_grown (S := fun b => D ≤ b) hg7 (fun k e _ => hob k (by first | exact e | (rw [Hkl.out]; exact e)))
              have hN7 := OwnRow.fr HN1.out hS7 (fun b _ h e => by omega)
              have hV7 := OwnRow.fr HV1.out hS7 (fun b _ h e => by omega)
              have hb7 := hb1.trans (hS7.below (B := w.heap.size) (fun b e => by omega) (by have := hb1.size; omega))
              rw [hv7] at hM7 ⊢
              rw [← Hnext.out] at hM7 ⊢
              have HN7 := Lib.hid hN7
              have HV7 := Lib.hid hV7
              have HM7 := Lib.hid hM7
              clear hN7 hV7 hM7
              clear hob hS7 hown7 hg7 hat7 hv7 HN1 HV1 HM1 Hd1 hb1 hs4 hbel e0 e1 e2 e3 e4 e5
              go_wp2_with fail
              go_roundw
              case rel => exact ⟨k + 1, A7, cap7, by omega, by go_num, by first | rfl | (rw [List.length_take, Nat.min_eq_left (by omega)]), HN7.out, HV7.out, HM7.out, hb7⟩
              case measure => simp [intOf]; omega
            · obtain rfl : k = s.m.length := by omega
              rw [List.take_length] at hM
              have hT := refs_tens hN (fun x hx => (Hold.out x hx).below hbel (Nat.le_refl _)) (fun x hx => by
                have := Ht4.out x.1 (by rw [← HL.out]; exact List.mem_map_of_mem hx)
                omega)
              have hR := rows_rowsI hV
              have hM2 := mets_of hM
              have hl1 : L.length = s.p.length := by rw [← HL.out]; simp
              have hl2 : LV.length = s.v.length := by have := congrArg List.length HLV.out; simpa using this
              rw [HL.out] at hT
              rw [HLV.out] at hR
              have HT := Lib.hid hT
              have HR := Lib.hid hR
              have HM2 := Lib.hid hM2
              have Hl1 := Lib.hid hl1
              have Hl2 := Lib.hid hl2
              clear hT hR hM2 hl1 hl2
              clear hN hV hM
              have hcall := ref27_encode A A2 A4 cap cap2 cap4 s wp Htt.out HT.out HR.out HM2.out
              rw [List.length_map, ← Hl1.out, ← Hl2.out] at hcall
              have hkl2 : (s.m.take s.m.length).length = s.m.length := by rw [List.take_length]
              have Hcall := Lib.hid hcall
              clear hcall
              clear hkl
              go_wp2_with fail
              first | refine Hcall.out.mono ?_ | (rw [hkl2]; refine Hcall.out.mono ?_)
              rintro e w5 ⟨rfl, h5⟩
              have hb5 := hbel.trans (h5.mono hbel.size)
              go_wp2_with fail
              go_ret
              exact ⟨rfl, hb5⟩
end Go.Proofs.Ytjgagbhbgehmpaa
