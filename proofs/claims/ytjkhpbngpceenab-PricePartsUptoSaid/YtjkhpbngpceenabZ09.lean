/- Lemmas for the statements of this seat: contracts of functions and the plain laws. -/
import Derived.Test.YtjkhpbngpceenabZ08
set_option linter.unusedVariables false
/- Layer 13's statements: what they share. -/
namespace Go.Proofs.Ytjkhpbngpceenab
open Go.RowKit
theorem netR_at {w w' : World} {A N : Option Addr} {n : NetD} (h : NetR w A N n) (hl : Later w w') : NetR w' A N n := h.below hl (Nat.le_refl _)
theorem Ints.row {w : World} {A : Option Addr} {zs : List Int} (h : Ints .i64 w A zs) (hz : 0 < zs.length) : ∃ b off, A = some ⟨b, off, none⟩ ∧ ∀ k (hk : k < zs.length), w.cell? ⟨b, off + k, none⟩ = some (.int .i64 zs[k]) := by
  obtain ⟨b, off, rfl, -, -⟩ := h 0 hz
  refine ⟨b, off, rfl, fun k hk => ?_⟩
  obtain ⟨b', o', e, -, hc⟩ := h k hk
  injection e with e; injection e with e1 e2; subst e1 e2
  rw [getD_at hk] at hc
  exact hc
theorem at_words {n : NetD} (h : Nt.check n = 0) {j : Nat} (hj : j ≤ n.nodes.length) : ∃ q : j < (Nt.words n).length, (Nt.words n)[j] = Nt.wAt n j := by
  have hl := Nt.words_len h
  refine ⟨by omega, ?_⟩
  unfold Nt.wAt
  rw [Int.toNat_natCast, List.getD_eq_getElem?_getD, List.getElem?_eq_getElem (by omega)]; rfl
theorem at_costs {n : NetD} {j : Nat} (hj : j ≤ n.nodes.length) : ∃ q : j < (Nt.costs n).length, (Nt.costs n)[j] = Nt.cAt n j := by
  have hl : (Nt.costs n).length = n.nodes.length + 1 := by simp [Nt.costs, Nt.costsTo_len]
  refine ⟨by omega, ?_⟩
  unfold Nt.cAt
  rw [Int.toNat_natCast, List.getD_eq_getElem?_getD, List.getElem?_eq_getElem (by omega)]; rfl
def WCut (n : NetD) (w : World) (a b : Value) (wx : World) : Prop :=
  ∃ A c A2 c2, a = .slice A (Nt.words n).length c ∧ b = .slice A2 (Nt.costs n).length c2 ∧ Ints .i64 wx A (Nt.words n) ∧ Ints .i64 wx A2 (Nt.costs n) ∧ Later w wx
end Go.Proofs.Ytjkhpbngpceenab
/- The plain law of layer 13: a net whose nodes bear other numbers has the same shapes and costs, moved. -/
namespace Go.Proofs.Ytjkhpbngpceenab
theorem Kn.nodup_len {a : List Int} : ∀ {b : List Int}, a.Nodup → (∀ x ∈ a, x ∈ b) → a.length ≤ b.length := by
  induction a with
  | nil => intro b _ _; simp
  | cons x r ih =>
    intro b hn hs
    rw [List.nodup_cons] at hn
    have hx := hs x (by simp)
    have h1 : r.length ≤ (b.erase x).length := ih hn.2 fun u hu => by
      have hne : u ≠ x := fun e => hn.1 (e ▸ hu)
      exact (List.mem_erase_of_ne hne).2 (hs u (by simp [hu]))
    rw [List.length_erase_of_mem hx] at h1
    have h2 : 0 < b.length := List.length_pos_of_mem hx
    rw [List.length_cons]
    omega
theorem Kn.stuck_end {I : Int → List Int} {n : Nat} (h : (Kn.order I n).length ≠ n) : Kn.ready I n (Kn.order I n) = [] := by
  have key : ∀ k, Kn.ready I n (Kn.go I n k) = [] ∨ (Kn.go I n k).length = k := by
    intro k
    induction k with
    | zero => right; rfl
    | succ k ih =>
      rcases ih with ih | ih
      · left
        have := Kn.go_stuck ih 1
        rw [this]; exact ih
      · rcases hr : Kn.ready I n (Kn.go I n k) with _ | ⟨id, r⟩
        · left
          have := Kn.go_stuck hr 1
          rw [this]; exact hr
        · right
          rw [Kn.go_more hr, List.length_append, ih]; rfl
  rcases key n with h1 | h1
  · exact h1
  · exact absurd h1 h
/-- If all numbers can be put in an order in which each comes behind its ins, the document's order has all. -/
theorem Kn.order_all {I : Int → List Int} {n : Nat} {L : List Int} (hm : ∀ u : Int, 1 ≤ u → u ≤ n → u ∈ L) (hr : ∀ u ∈ L, 1 ≤ u ∧ u ≤ n) (hb : ∀ a u b, L = a ++ u :: b → ∀ i ∈ I u, i = 0 ∨ i ∈ a) : (Kn.order I n).length = n := by
  by_cases h : (Kn.order I n).length = n
  · exact h
  have hst := Kn.stuck_end h
  exfalso
  have hall : ∀ k, k ≤ L.length → ∀ u ∈ L.take k, u ∈ Kn.order I n := by
    intro k
    induction k with
    | zero => intro _ u hu; simp at hu
    | succ k ih =>
      intro hk u hu
      rw [List.take_succ_eq_append_getElem (by omega)] at hu
      rcases List.mem_append.1 hu with hu | hu
      · exact ih (by omega) u hu
      · simp at hu
        subst hu
        have hsp : L = L.take k ++ L[k] :: L.drop (k + 1) := by rw [← List.drop_eq_getElem_cons (by omega), List.take_append_drop]
        have hin := hb _ _ _ hsp
        have hrg := hr _ (List.getElem_mem (show k < L.length by omega))
        apply Classical.byContradiction
        intro hno
        have : L[k] ∈ Kn.ready I n (Kn.order I n) := by
          rw [Kn.mem_ready]
          refine ⟨hrg, hno, ?_⟩
          unfold Kn.wt
          rw [List.length_eq_zero_iff, List.filter_eq_nil_iff]
          intro i hi
          rcases hin i hi with h0 | h0
          · simp [h0]
          · have := ih (by omega) i h0
            simp [this]
        rw [hst] at this
        simp at this
  have hids : ∀ u ∈ Kn.ids n, u ∈ Kn.order I n := fun u hu => by
    have := Kn.mem_ids.1 hu
    exact hall L.length (Nat.le_refl _) u (by rw [List.take_length]; exact hm u this.1 this.2)
  have hle : n ≤ (Kn.order I n).length := by
    have := Kn.nodup_len (Kn.ids_nodup n) hids
    rw [Kn.ids_length] at this
    exact this
  have := (Kn.go_ok I n n).len
  exact h (Nat.le_antisymm this hle)
namespace Nt
/-- The nodes of m are those of n, moved by s (t moves back). -/
structure Moved (s t : Int → Int) (n m : NetD) : Prop where
  len : m.nodes.length = n.nodes.length
  inn : m.inn = n.inn
  s0 : s 0 = 0
  sr : ∀ u : Int, 1 ≤ u → u ≤ n.nodes.length → 1 ≤ s u ∧ s u ≤ n.nodes.length
  tr : ∀ u : Int, 1 ≤ u → u ≤ n.nodes.length → 1 ≤ t u ∧ t u ≤ n.nodes.length
  st : ∀ u : Int, 1 ≤ u → u ≤ n.nodes.length → s (t u) = u
  ts : ∀ u : Int, 1 ≤ u → u ≤ n.nodes.length → t (s u) = u
  nd : ∀ u : Int, 1 ≤ u → u ≤ n.nodes.length → node m.nodes (s u) = ⟨(node n.nodes u).op, (node n.nodes u).ins.map s, (node n.nodes u).p⟩
section
variable {s t : Int → Int} {n m : NetD}
theorem Moved.mem (h : Moved s t n m) {v : NodeD} (hv : v ∈ m.nodes) : ∃ u : Int, 1 ≤ u ∧ u ≤ n.nodes.length ∧ node n.nodes u ∈ n.nodes ∧ v = ⟨(node n.nodes u).op, (node n.nodes u).ins.map s, (node n.nodes u).p⟩ := by
  obtain ⟨k, hk, rfl⟩ := List.getElem_of_mem hv
  have hl := h.len
  have e := node_at hk
  have h1 := h.tr ((k : Int) + 1) (by omega) (by omega)
  have h2 := h.nd _ h1.1 h1.2
  rw [h.st _ (by omega) (by omega), e] at h2
  exact ⟨_, h1.1, h1.2, node_mem h1, h2⟩
theorem bads_of {k : Nat} {ns : List NodeD} (h : ∀ v ∈ ns, Od.right v.op = true ∧ ∀ i ∈ v.ins, 0 ≤ i ∧ i ≤ k) : bads k ns = 0 := by
  induction ns with
  | nil => rfl
  | cons v r ih =>
    obtain ⟨h1, h2⟩ := h v (by simp)
    rw [bads, if_pos h1, if_pos (by simpa using h2)]
    exact ih fun u hu => h u (by simp [hu])
theorem Moved.in_ (h : Moved s t n m) {i : Int} (h0 : 0 ≤ i) (h1 : i ≤ n.nodes.length) : 0 ≤ s i ∧ s i ≤ n.nodes.length ∧ (s i = 0 → i = 0) := by
  by_cases e : i = 0
  · subst e
    rw [h.s0]
    omega
  · have := h.sr i (by omega) h1
    omega
theorem Moved.inj (h : Moved s t n m) {i j : Int} (h0 : 0 ≤ i) (h1 : i ≤ n.nodes.length) (k0 : 0 ≤ j) (k1 : j ≤ n.nodes.length) (e : s i = s j) : i = j := by
  have a := h.in_ h0 h1
  have b := h.in_ k0 k1
  by_cases ei : i = 0
  · subst ei
    rw [h.s0] at e
    exact (b.2.2 e.symm).symm
  · by_cases ej : j = 0
    · subst ej
      rw [h.s0] at e
      exact a.2.2 e
    · have := h.ts i (by omega) h1
      rw [e, h.ts j (by omega) k1] at this
      exact this.symm
theorem Moved.bads (h : Moved s t n m) (hb : Nt.bads n.nodes.length n.nodes = 0) : Nt.bads m.nodes.length m.nodes = 0 := by
  rw [h.len]
  refine bads_of fun v hv => ?_
  obtain ⟨u, h1, h2, hm, rfl⟩ := h.mem hv
  obtain ⟨q1, q2⟩ := bads_all hb _ hm
  refine ⟨q1, fun i hi => ?_⟩
  obtain ⟨j, hj, rfl⟩ := List.mem_map.1 hi
  have hj2 := q2 j hj
  have := h.in_ hj2.1 hj2.2
  exact ⟨this.1, this.2.1⟩
theorem Moved.sorted (h : Moved s t n m) (hl : (Nt.sorted n.nodes).length = n.nodes.length) : (Nt.sorted m.nodes).length = m.nodes.length := by
  have hrg : ∀ u ∈ Nt.sorted n.nodes, 1 ≤ u ∧ u ≤ n.nodes.length := Kn.order_rng _ _
  refine Kn.order_all (L := (Nt.sorted n.nodes).map s) (fun u h1 h2 => ?_) (fun u hu => ?_) (fun a u b e i hi => ?_)
  · rw [h.len] at h2
    have ht := h.tr u h1 h2
    exact List.mem_map.2 ⟨t u, (Kn.order_full hl _).2 ht, h.st u h1 h2⟩
  · obtain ⟨v, hv, rfl⟩ := List.mem_map.1 hu
    have := hrg v hv
    rw [h.len]
    exact h.sr v this.1 this.2
  · obtain ⟨A, B, e1, rfl, e2⟩ := List.map_eq_append_iff.1 e
    obtain ⟨v, B', rfl, rfl, e3⟩ := List.map_eq_cons_iff.1 e2
    have hv := hrg v (by rw [e1]; simp)
    have hbe := Kn.order_behind _ _ e1
    have hnd := h.nd v hv.1 hv.2
    have hi' : i ∈ (node n.nodes v).ins.map s := by
      have : i ∈ (node m.nodes (s v)).ins := hi
      rw [hnd] at this
      exact this
    obtain ⟨j, hj, rfl⟩ := List.mem_map.1 hi'
    rcases hbe j hj with h0 | h0
    · left; rw [h0, h.s0]
    · right; exact List.mem_map.2 ⟨j, h0, rfl⟩
/-- The shapes of m, as far as they are laid. -/
theorem Moved.lay (h : Moved s t n m) (hc : Nt.check n = 0) : ∀ k, k ≤ (Nt.sorted m.nodes).length → (Nt.lay m.nodes (start m) ((Nt.sorted m.nodes).take k)).2 = 0 ∧ (Nt.lay m.nodes (start m) ((Nt.sorted m.nodes).take k)).1.length = n.nodes.length + 1 ∧
    ∀ i : Int, 0 ≤ i → i ≤ n.nodes.length → (i = 0 ∨ s i ∈ (Nt.sorted m.nodes).take k) → (Nt.lay m.nodes (start m) ((Nt.sorted m.nodes).take k)).1.getD (s i).toNat [] = (Nt.shapes n).getD i.toNat [] := by
  have hrg : ∀ u ∈ Nt.sorted m.nodes, 1 ≤ u ∧ u ≤ m.nodes.length := Kn.order_rng _ _
  have hbad := bads_all (check_ok hc).2.2.2.1
  intro k
  induction k with
  | zero =>
    intro _
    refine ⟨rfl, by simp [Nt.lay, start, h.len], fun i h0 h1 hi => ?_⟩
    have e : i = 0 := by simpa using hi
    subst e
    rw [h.s0]
    show (Nt.start m).getD 0 [] = _
    rw [show (0 : Int).toNat = 0 from rfl, shapes_zero hc]
    simp [start, h.inn]
  | succ k ih =>
    intro hk
    obtain ⟨i1, i2, i3⟩ := ih (by omega)
    have hlt : k < (Nt.sorted m.nodes).length := by omega
    have hsp : Nt.sorted m.nodes = (Nt.sorted m.nodes).take k ++ (Nt.sorted m.nodes)[k] :: (Nt.sorted m.nodes).drop (k + 1) := by rw [← List.drop_eq_getElem_cons hlt, List.take_append_drop]
    have hbe := Kn.order_behind _ _ hsp
    have hu := hrg _ (List.getElem_mem hlt)
    rw [List.take_succ_eq_append_getElem hlt]
    generalize (Nt.sorted m.nodes)[k] = u at *
    generalize (Nt.sorted m.nodes).take k = A at *
    rw [h.len] at hu
    have ht := h.tr u hu.1 hu.2
    have hst := h.st u hu.1 hu.2
    have hnd := h.nd _ ht.1 ht.2
    rw [hst] at hnd
    obtain ⟨sh, hsh⟩ : ∃ sh, Nt.lay m.nodes (start m) A = (sh, 0) := ⟨_, Prod.ext rfl i1⟩
    rw [hsh] at i2 i3
    have i4 : sh.length = n.nodes.length + 1 := i2
    have hfix := shapes_fix hc ht.1 ht.2
    have hins := (hbad _ (node_mem ht)).2
    have hpk : pick sh ((node n.nodes (t u)).ins.map s) = pick (shapes n) (node n.nodes (t u)).ins := by
      unfold pick
      rw [List.map_map]
      refine List.map_congr_left fun j hj => ?_
      have hj2 := hins j hj
      refine i3 j hj2.1 hj2.2 ?_
      have hm : s j ∈ insF m.nodes u := by
        unfold insF
        rw [hnd]
        exact List.mem_map.2 ⟨j, hj, rfl⟩
      rcases hbe _ hm with h0 | h0
      · left; exact (h.in_ hj2.1 hj2.2).2.2 h0
      · right; exact h0
    have hstep : layStep m.nodes sh u = ((shapes n).getD (t u).toNat [], 0) := by
      rw [← hfix]
      unfold layStep
      rw [hnd, ← hpk]
    have hs2 : (layStep m.nodes sh u).2 = 0 := by rw [hstep]
    rw [lay_snoc hsh hs2, hstep]
    refine ⟨rfl, by simpa using i2, fun i h0 h1 hi => ?_⟩
    have hsi := h.in_ h0 h1
    by_cases e : s i = u
    · have ei : i = t u := by
        have : s i = s (t u) := by rw [hst]; exact e
        exact h.inj h0 h1 (by omega) ht.2 this
      rw [e, ei]
      simp only
      rw [List.getD_eq_getElem?_getD, List.getElem?_set_self (by omega)]
      rfl
    · simp only
      rw [List.getD_eq_getElem?_getD, List.getElem?_set_ne (by omega), ← List.getD_eq_getElem?_getD]
      refine i3 i h0 h1 ?_
      rcases hi with hi | hi
      · exact .inl hi
      · rcases List.mem_append.1 hi with hi | hi
        · exact .inr hi
        · simp at hi; exact absurd hi e
theorem only_one {l : List Int} {a : Int} (hn : l.Nodup) (h : ∀ x, x ∈ l ↔ x = a) : l = [a] := by
  match l, hn, h with
  | [], _, h => exact absurd ((h a).2 rfl) (by simp)
  | [x], _, h => rw [(h x).1 (by simp)]
  | x :: y :: r, hn, h =>
    have h1 := (h x).1 (by simp)
    have h2 := (h y).1 (by simp)
    rw [List.nodup_cons] at hn
    exact absurd (by rw [h1, h2]; simp) hn.1
theorem nums_nodup (k : Nat) : (nums k).Nodup := by
  unfold nums
  rw [List.nodup_iff_pairwise_ne, List.pairwise_map]
  exact List.pairwise_lt_range.imp (by intro a b h; omega)
theorem used_iff {ns : List NodeD} {id : Int} : isUsed ns id = true ↔ ∃ v ∈ ns, id ∈ v.ins := by simp [isUsed]
theorem Moved.used (h : Moved s t n m) (hb : Nt.bads n.nodes.length n.nodes = 0) {i : Int} (h0 : 0 ≤ i) (h1 : i ≤ n.nodes.length) : isUsed m.nodes (s i) = isUsed n.nodes i := by
  have hbad := bads_all hb
  rw [Bool.eq_iff_iff, used_iff, used_iff]
  constructor
  · rintro ⟨v, hv, hi⟩
    obtain ⟨u, u1, u2, hm, rfl⟩ := h.mem hv
    obtain ⟨j, hj, e⟩ := List.mem_map.1 hi
    have hj2 := (hbad _ hm).2 j hj
    have := h.inj hj2.1 hj2.2 h0 h1 e
    subst this
    exact ⟨_, hm, hj⟩
  · rintro ⟨v, hv, hi⟩
    obtain ⟨k, hk, rfl⟩ := List.getElem_of_mem hv
    have e := node_at hk
    have hr := h.sr ((k : Int) + 1) (by omega) (by omega)
    have hnd := h.nd ((k : Int) + 1) (by omega) (by omega)
    refine ⟨_, node_mem (ns := m.nodes) (id := s ((k : Int) + 1)) ⟨hr.1, by rw [h.len]; exact hr.2⟩, ?_⟩
    rw [hnd, e]
    exact List.mem_map.2 ⟨i, hi, rfl⟩
theorem Moved.loss (h : Moved s t n m) (hb : Nt.bads n.nodes.length n.nodes = 0) (hl : lossOk n.nodes = true) : lossOk m.nodes = true ∧ Nt.loss m.nodes = s (Nt.loss n.nodes) := by
  obtain ⟨h1, h2, h3⟩ := loss_mem hl
  have hu : unused m.nodes = [s (Nt.loss n.nodes)] := by
    refine only_one ((nums_nodup _).filter _) fun x => ?_
    have hmem : ∀ i, i ∈ unused n.nodes ↔ i = Nt.loss n.nodes := fun i => by rw [h1]; simp
    unfold unused at hmem ⊢
    simp only [List.mem_filter, mem_nums] at hmem ⊢
    rw [h.len]
    constructor
    · rintro ⟨⟨x0, x1⟩, hx⟩
      by_cases e : x = 0
      · subst e
        have hh := (hmem 0).1 ⟨by omega, by
          have := h.used hb (i := 0) (by omega) (by omega)
          rw [h.s0] at this
          rw [← this]; exact hx⟩
        omega
      · have ht := h.tr x (by omega) x1
        have hst := h.st x (by omega) x1
        have hh := (hmem (t x)).1 ⟨by omega, by
          have := h.used hb (i := t x) (by omega) ht.2
          rw [hst] at this
          rw [← this]; exact hx⟩
        rw [← hh, hst]
    · intro e
      subst e
      have hl2 := (hmem (Nt.loss n.nodes)).2 rfl
      have hs := h.sr _ h2 h3
      exact ⟨by omega, by rw [h.used hb (by omega) h3]; exact hl2.2⟩
  have hs := h.sr _ h2 h3
  have hlo : Nt.loss m.nodes = s (Nt.loss n.nodes) := by unfold Nt.loss; rw [hu]; rfl
  refine ⟨?_, hlo⟩
  unfold lossOk
  rw [hlo, hu]
  simp
  omega
/-- The moved net is valid, and has the same shapes, moved. -/
theorem Moved.all (h : Moved s t n m) (hc : Nt.check n = 0) : Nt.check m = 0 ∧ ∀ i : Int, 0 ≤ i → i ≤ n.nodes.length → (Nt.shapes m).getD (s i).toNat [] = (Nt.shapes n).getD i.toNat [] := by
  obtain ⟨c1, c2, c3, c4, c5, c6, c7, c8⟩ := check_ok hc
  have hso := h.sorted c5
  have hlay := h.lay hc (Nt.sorted m.nodes).length (Nat.le_refl _)
  rw [List.take_length] at hlay
  obtain ⟨l1, l2, l3⟩ := hlay
  have hl := h.len
  have hsh : ∀ i : Int, 0 ≤ i → i ≤ n.nodes.length → (Nt.shapes m).getD (s i).toNat [] = (Nt.shapes n).getD i.toNat [] := fun i h0 h1 => by
    refine l3 i h0 h1 ?_
    by_cases e : i = 0
    · exact .inl e
    · right
      have := h.sr i (by omega) h1
      exact (Kn.order_full hso _).2 ⟨this.1, by rw [hl]; exact this.2⟩
  refine ⟨?_, hsh⟩
  obtain ⟨k1, k2⟩ := h.loss c4 c7
  have k3 := loss_mem c7
  have hb := h.bads c4
  unfold Nt.check
  rw [if_neg (by omega), if_neg (by rw [h.inn, c3]; simp), if_neg (by rw [hb]; simp), if_neg (by rw [hso]; simp), if_neg (by rw [l1]; simp), if_neg (by rw [k1]; simp), if_neg (by rw [k2, hsh _ (by omega) k3.2.2, c8]; simp)]
theorem words_at {n : NetD} (i : Nat) : i < (Nt.shapes n).length → (Nt.words n).getD i 0 = Safe.prod ((Nt.shapes n).getD i []) := fun h => by
  unfold words
  rw [List.getD_eq_getElem?_getD, List.getD_eq_getElem?_getD, List.getElem?_map, List.getElem?_eq_getElem h]
  rfl
theorem costs_at {n : NetD} {i : Nat} (h : i < n.nodes.length) : (Nt.costs n).getD (i + 1) 0 = Od.costV (node n.nodes ((i : Int) + 1)).op (node n.nodes ((i : Int) + 1)).p ((Nt.shapes n).getD (i + 1) []) := by
  unfold costs costsTo
  have e : n.nodes.getD i none_ = n.nodes[i] := by rw [List.getD_eq_getElem?_getD, List.getElem?_eq_getElem h]; rfl
  rw [List.getD_eq_getElem?_getD, List.getElem?_cons_succ, List.getElem?_map, List.getElem?_range h, node_at h, ← e]
  rfl
theorem Moved.words (h : Moved s t n m) (hc : Nt.check n = 0) {i : Int} (h0 : 0 ≤ i) (h1 : i ≤ n.nodes.length) : (Nt.words m).getD (s i).toNat 0 = (Nt.words n).getD i.toNat 0 := by
  obtain ⟨hm, hs⟩ := h.all hc
  have l1 := shapes_len hc
  have l2 := shapes_len hm
  have hl := h.len
  have hi := h.in_ h0 h1
  rw [words_at _ (by omega), words_at _ (by omega), hs i h0 h1]
theorem Moved.costs (h : Moved s t n m) (hc : Nt.check n = 0) {i : Int} (h0 : 0 ≤ i) (h1 : i ≤ n.nodes.length) : (Nt.costs m).getD (s i).toNat 0 = (Nt.costs n).getD i.toNat 0 := by
  obtain ⟨hm, hs⟩ := h.all hc
  by_cases e : i = 0
  · subst e
    rw [h.s0]
    rfl
  · have hi := h.sr i (by omega) h1
    have hl := h.len
    obtain ⟨a, ha⟩ : ∃ a : Nat, i = (a : Int) + 1 := ⟨(i - 1).toNat, by omega⟩
    obtain ⟨b, hb⟩ : ∃ b : Nat, s i = (b : Int) + 1 := ⟨(s i - 1).toNat, by omega⟩
    have hsi := hs i h0 h1
    have hnd := h.nd i (by omega) h1
    rw [hb] at hsi hnd hi ⊢
    rw [ha] at hsi hnd h1 ⊢
    rw [show ((b : Int) + 1).toNat = b + 1 by omega] at hsi ⊢
    rw [show ((a : Int) + 1).toNat = a + 1 by omega] at hsi ⊢
    rw [costs_at (by omega), costs_at (by omega), hsi, hnd]
theorem sum_perm {a b : List Int} (h : a.Perm b) : Safe.sum a = Safe.sum b := by
  induction h with
  | nil => rfl
  | cons x _ ih => simp only [Safe.sum, ih]
  | swap x y l => simp only [Safe.sum]; omega
  | trans _ _ h1 h2 => exact h1.trans h2
theorem costs_len (n : NetD) : (Nt.costs n).length = n.nodes.length + 1 := by simp [Nt.costs, Nt.costsTo_len]
theorem costs_nums (n : NetD) : Nt.costs n = (nums n.nodes.length).map fun i => (Nt.costs n).getD i.toNat 0 := by
  apply List.ext_getElem
  · rw [costs_len, List.length_map, nums_length]
  · intro j h1 h2
    rw [List.getElem_map]
    have : (nums n.nodes.length)[j]'(by rw [nums_length]; rw [costs_len] at h1; exact h1) = (j : Int) := by simp [nums]
    rw [this, Int.toNat_natCast, List.getD_eq_getElem?_getD, List.getElem?_eq_getElem h1]
    rfl
theorem Moved.total (h : Moved s t n m) (hc : Nt.check n = 0) : Nt.total m = Nt.total n := by
  have hp : ((nums n.nodes.length).map s).Perm (nums n.nodes.length) := by
    refine (List.perm_ext_iff_of_nodup ?_ (nums_nodup _)).2 fun u => ?_
    · rw [List.nodup_iff_pairwise_ne, List.pairwise_map]
      refine (List.nodup_iff_pairwise_ne.1 (nums_nodup n.nodes.length)).imp_of_mem fun {a b} ha hb hne e => ?_
      rw [mem_nums] at ha hb
      exact hne (h.inj ha.1 ha.2 hb.1 hb.2 e)
    · rw [List.mem_map, mem_nums]
      constructor
      · rintro ⟨i, hi, rfl⟩
        rw [mem_nums] at hi
        have := h.in_ hi.1 hi.2
        exact ⟨this.1, this.2.1⟩
      · intro hu
        by_cases e : u = 0
        · exact ⟨0, mem_nums.2 (by omega), by rw [e, h.s0]⟩
        · have := h.tr u (by omega) hu.2
          exact ⟨t u, mem_nums.2 (by omega), h.st u (by omega) hu.2⟩
  unfold Nt.total
  rw [costs_nums m, costs_nums n, h.len, ← sum_perm (hp.map fun i => (Nt.costs m).getD i.toNat 0), List.map_map]
  congr 1
  refine List.map_congr_left fun i hi => ?_
  rw [mem_nums] at hi
  exact h.costs hc hi.1 hi.2
end
end Nt
end Go.Proofs.Ytjkhpbngpceenab
/- A net whose nodes bear rotated numbers: what it is, and how its nodes lie in memory. -/
namespace Go.Proofs.Ytjkhpbngpceenab
open Go.RowKit
namespace Nt
def rot (y k u : Int) : Int := if u = 0 then 0 else (u - 1 + y) % k + 1
def rotNode (y k : Int) (v : NodeD) : NodeD := ⟨v.op, v.ins.map (rot y k), v.p⟩
def rotNet (n : NetD) (y : Int) : NetD := ⟨n.inn, (List.range n.nodes.length).map fun p : Nat => rotNode y n.nodes.length (node n.nodes (rot (-y) n.nodes.length ((p : Int) + 1)))⟩
theorem rot_rng {y k u : Int} (hk : 0 < k) (hu : u ≠ 0) : 1 ≤ rot y k u ∧ rot y k u ≤ k := by
  unfold rot
  rw [if_neg hu]
  have h1 := Int.emod_nonneg (u - 1 + y) (show k ≠ 0 by omega)
  have h2 := Int.emod_lt_of_pos (u - 1 + y) hk
  omega
theorem rot_rot {y k u : Int} (h1 : 1 ≤ u) (h2 : u ≤ k) : rot y k (rot (-y) k u) = u := by
  have h := rot_rng (y := -y) (k := k) (u := u) (by omega) (by omega)
  have e : rot (-y) k u - 1 = (u - 1 + -y) % k := by unfold rot; rw [if_neg (by omega)]; omega
  generalize rot (-y) k u = r at *
  unfold rot
  rw [if_neg (by omega), e, Int.emod_add_emod, show u - 1 + -y + y = u - 1 by omega, Int.emod_eq_of_lt (by omega) (by omega)]
  omega
theorem rot_back {y k u : Int} (h1 : 1 ≤ u) (h2 : u ≤ k) : rot (-y) k (rot y k u) = u := by
  have := rot_rot (y := -y) h1 h2
  rwa [Int.neg_neg] at this
theorem rotNet_len (n : NetD) (y : Int) : (rotNet n y).nodes.length = n.nodes.length := by simp [rotNet]
theorem rotNet_at {n : NetD} {y : Int} {q : Nat} (hq : q < (rotNet n y).nodes.length) : (rotNet n y).nodes[q] = rotNode y n.nodes.length (node n.nodes (rot (-y) n.nodes.length ((q : Int) + 1))) := by
  simp only [rotNet, List.getElem_map, List.getElem_range]
theorem rot_moved (n : NetD) (y : Int) (h : 1 ≤ n.nodes.length) : Moved (rot y n.nodes.length) (rot (-y) n.nodes.length) n (rotNet n y) where
  len := rotNet_len n y
  inn := rfl
  s0 := rfl
  sr u h1 _ := rot_rng (by omega) (by omega)
  tr u h1 _ := rot_rng (by omega) (by omega)
  st u h1 h2 := rot_rot h1 h2
  ts u h1 h2 := rot_back h1 h2
  nd u h1 h2 := by
    have hr := rot_rng (y := y) (k := n.nodes.length) (u := u) (by omega) (by omega)
    obtain ⟨p, hp⟩ : ∃ p : Nat, rot y n.nodes.length u = (p : Int) + 1 := ⟨(rot y n.nodes.length u - 1).toNat, by omega⟩
    have hp2 : p < (rotNet n y).nodes.length := by rw [rotNet_len]; omega
    rw [hp, node_at hp2, rotNet_at hp2, ← hp, rot_back h1 h2]
    rfl
theorem rotNet_ok {n : NetD} {y : Int} (hok : n.ok) (h1 : 1 ≤ n.nodes.length) (hb : ∀ v ∈ n.nodes, ∀ i ∈ v.ins, 0 ≤ i ∧ i ≤ n.nodes.length) : (rotNet n y).ok := by
  refine ⟨hok.1, by rw [rotNet_len]; exact hok.2.1, fun v hv => ?_⟩
  obtain ⟨q, hq, rfl⟩ := List.getElem_of_mem hv
  rw [rotNet_at hq]
  rw [rotNet_len] at hq
  have hr := rot_rng (y := -y) (k := n.nodes.length) (u := (q : Int) + 1) (by omega) (by omega)
  have hm := node_mem hr
  generalize node n.nodes (rot (-y) n.nodes.length ((q : Int) + 1)) = u at *
  obtain ⟨k1, k2, k3, k4, k5, k6⟩ := hok.2.2 u hm
  refine ⟨k1, k2, by simpa [rotNode] using k3, k4, k5, fun z hz => ?_⟩
  obtain ⟨i, hi, rfl⟩ := List.mem_map.1 hz
  have hl := hok.2.1
  by_cases e : i = 0
  · subst e; simp [rot]
  · have := rot_rng (y := y) (k := n.nodes.length) (u := i) (by omega) e
    omega
end Nt
def C10 (cs : List Value) (o : Nat) (l : List Value) : Prop := ∀ i, i < 10 → cs[o + i]? = l[i]?
theorem C10_at {cs l : List Value} {o : Nat} (ho : o + 10 ≤ cs.length) (hl : l.length = 10) : C10 (cs.take o ++ l ++ cs.drop (o + 10)) o l := fun i hi => by
  have h1 : (cs.take o).length = o := by simp; omega
  rw [List.append_assoc, List.getElem?_append_right (by omega), h1, show o + i - o = i by omega, List.getElem?_append_left (by omega)]
theorem C10_off {cs l l' : List Value} {o o' : Nat} (ho : o + 10 ≤ cs.length) (hl : l.length = 10) (h : C10 cs o' l') (hne : o' + 10 ≤ o ∨ o + 10 ≤ o') : C10 (cs.take o ++ l ++ cs.drop (o + 10)) o' l' := fun i hi => by
  have h1 : (cs.take o).length = o := by simp; omega
  rw [← h i hi]
  rcases hne with hne | hne
  · rw [List.append_assoc, List.getElem?_append_left (by omega), List.getElem?_take_of_lt (by omega)]
  · rw [List.getElem?_append_right (by rw [List.length_append, h1, hl]; omega), List.getElem?_drop, List.length_append, h1, hl]
    congr 1
    omega
/-- The first k nodes of n lie at their new places in block g. -/
def Placed (w wx : World) (B g : Nat) (n : NetD) (y : Int) (k : Nat) : Prop :=
  ∃ cs : List Value, Blk wx g 46 cs.toArray ∧ cs.length = n.nodes.length * 10 ∧ ∀ j (hj : j < n.nodes.length), j < k → ∃ S sc J jc Q qc,
    C10 cs (((Nt.rot y n.nodes.length ((j : Int) + 1)).toNat - 1) * 10) [.int .i64 n.nodes[j].op.kind, .int .i64 n.nodes[j].op.k, .int .i64 n.nodes[j].op.width, .int .i64 n.nodes[j].op.step, .int .i64 n.nodes[j].op.side, .int .i64 n.nodes[j].op.frm, .int .i64 n.nodes[j].op.to, .slice S n.nodes[j].op.s.length sc, .slice J n.nodes[j].ins.length jc, .slice Q n.nodes[j].p.length qc] ∧
    (Ints .i64 w S n.nodes[j].op.s ∧ n.nodes[j].op.s.length ≤ sc ∧ sc ≤ 9223372036854775807) ∧ wx.ownsRow B 3 1 (.slice J n.nodes[j].ins.length jc) n.nodes[j].ins.length ((n.nodes[j].ins.map (Nt.rot y n.nodes.length)).map (Value.int .i64)) ∧ (Shps w Q n.nodes[j].p ∧ n.nodes[j].p.length ≤ qc ∧ qc ≤ 9223372036854775807)
theorem Placed.start {w wx : World} {B g : Nat} {n : NetD} {y : Int} {cs : Array Value} (h : Blk wx g 46 cs) (hs : cs.size = n.nodes.length * 10) : Placed w wx B g n y 0 := ⟨cs.toList, by simpa using h, by simpa using hs, fun j _ h => absurd h (by omega)⟩
theorem Placed.later {w wx wy : World} {B g : Nat} {n : NetD} {y : Int} {k : Nat} (h : Placed w wx B g n y k) (hl : Later wx wy) : Placed w wy B g n y k := by
  obtain ⟨cs, h1, h2, h3⟩ := h
  refine ⟨cs, hl.blk h1, h2, fun j hj hk => ?_⟩
  obtain ⟨S, sc, J, jc, Q, qc, a, b, c, d⟩ := h3 j hj hk
  exact ⟨S, sc, J, jc, Q, qc, a, b, ownsRow_keep (T := 46) c (by decide) (Keep.of_later hl), d⟩
theorem Placed.has {w wx : World} {B g : Nat} {n : NetD} {y : Int} {k p : Nat} (h : Placed w wx B g n y k) (hp : p < n.nodes.length) :
    (∃ z0 z1 z2 z3 z4 z5 z6 z7 z8 z9, wx.cell? ⟨g, p * 10, none⟩ = some z0 ∧ wx.cell? ⟨g, p * 10 + 1, none⟩ = some z1 ∧ wx.cell? ⟨g, p * 10 + 2, none⟩ = some z2 ∧ wx.cell? ⟨g, p * 10 + 3, none⟩ = some z3 ∧ wx.cell? ⟨g, p * 10 + 4, none⟩ = some z4 ∧ wx.cell? ⟨g, p * 10 + 5, none⟩ = some z5 ∧ wx.cell? ⟨g, p * 10 + 6, none⟩ = some z6 ∧ wx.cell? ⟨g, p * 10 + 7, none⟩ = some z7 ∧ wx.cell? ⟨g, p * 10 + 8, none⟩ = some z8 ∧ wx.cell? ⟨g, p * 10 + 9, none⟩ = some z9) ∧ (∀ i, wx.frozen? ⟨g, i, none⟩ = false) := by
  obtain ⟨cs, h1, h2, -⟩ := h
  refine ⟨⟨cs[p * 10]'(by omega), cs[p * 10 + 1]'(by omega), cs[p * 10 + 2]'(by omega), cs[p * 10 + 3]'(by omega), cs[p * 10 + 4]'(by omega), cs[p * 10 + 5]'(by omega), cs[p * 10 + 6]'(by omega), cs[p * 10 + 7]'(by omega), cs[p * 10 + 8]'(by omega), cs[p * 10 + 9]'(by omega), ?_⟩, fun i => h1.frozen i⟩
  refine ⟨?_, ?_, ?_, ?_, ?_, ?_, ?_, ?_, ?_, ?_⟩
  all_goals (rw [h1.cell, List.getElem?_toArray, List.getElem?_eq_getElem])
theorem Placed.step {w wx : World} {B g : Nat} {n : NetD} {y : Int} {k p : Nat} (h : Placed w wx B g n y k) (hk : k < n.nodes.length) (hp : Nt.rot y n.nodes.length ((k : Int) + 1) = (p : Int) + 1) {S : Option Addr} {sc : Nat} {J : Option Addr} {jc : Nat} {Q : Option Addr} {qc : Nat}
    (hS : Ints .i64 w S n.nodes[k].op.s ∧ n.nodes[k].op.s.length ≤ sc ∧ sc ≤ 9223372036854775807) (hJ : wx.ownsRow B 3 1 (.slice J n.nodes[k].ins.length jc) n.nodes[k].ins.length ((n.nodes[k].ins.map (Nt.rot y n.nodes.length)).map (Value.int .i64))) (hQ : Shps w Q n.nodes[k].p ∧ n.nodes[k].p.length ≤ qc ∧ qc ≤ 9223372036854775807) :
    Placed w (set10 wx g (p * 10) [.int .i64 n.nodes[k].op.kind, .int .i64 n.nodes[k].op.k, .int .i64 n.nodes[k].op.width, .int .i64 n.nodes[k].op.step, .int .i64 n.nodes[k].op.side, .int .i64 n.nodes[k].op.frm, .int .i64 n.nodes[k].op.to, .slice S n.nodes[k].op.s.length sc, .slice J n.nodes[k].ins.length jc, .slice Q n.nodes[k].p.length qc]) B g n y (k + 1) ∧
    Keep 46 wx (set10 wx g (p * 10) [.int .i64 n.nodes[k].op.kind, .int .i64 n.nodes[k].op.k, .int .i64 n.nodes[k].op.width, .int .i64 n.nodes[k].op.step, .int .i64 n.nodes[k].op.side, .int .i64 n.nodes[k].op.frm, .int .i64 n.nodes[k].op.to, .slice S n.nodes[k].op.s.length sc, .slice J n.nodes[k].ins.length jc, .slice Q n.nodes[k].p.length qc]) := by
  obtain ⟨cs, h1, h2, h3⟩ := h
  have hr := Nt.rot_rng (y := y) (k := n.nodes.length) (u := (k : Int) + 1) (by omega) (by omega)
  rw [hp] at hr
  have ho : p * 10 + 10 ≤ cs.length := by omega
  have hkp := Keep.set10 h1 (p * 10) [.int .i64 n.nodes[k].op.kind, .int .i64 n.nodes[k].op.k, .int .i64 n.nodes[k].op.width, .int .i64 n.nodes[k].op.step, .int .i64 n.nodes[k].op.side, .int .i64 n.nodes[k].op.frm, .int .i64 n.nodes[k].op.to, .slice S n.nodes[k].op.s.length sc, .slice J n.nodes[k].ins.length jc, .slice Q n.nodes[k].p.length qc]
  refine ⟨⟨cs.take (p * 10) ++ [.int .i64 n.nodes[k].op.kind, .int .i64 n.nodes[k].op.k, .int .i64 n.nodes[k].op.width, .int .i64 n.nodes[k].op.step, .int .i64 n.nodes[k].op.side, .int .i64 n.nodes[k].op.frm, .int .i64 n.nodes[k].op.to, .slice S n.nodes[k].op.s.length sc, .slice J n.nodes[k].ins.length jc, .slice Q n.nodes[k].p.length qc] ++ cs.drop (p * 10 + 10), ?_, ?_, fun j hj hjk => ?_⟩, hkp⟩
  · obtain ⟨z0, z1, z2, z3, z4, z5, z6, z7, z8, z9, e⟩ := drop_ten (zs := cs) (o := p * 10) ho
    have hsp : cs = cs.take (p * 10) ++ z0 :: z1 :: z2 :: z3 :: z4 :: z5 :: z6 :: z7 :: z8 :: z9 :: cs.drop (p * 10 + 10) := by rw [← e, List.take_append_drop]
    have h1' := h1
    rw [hsp] at h1'
    have hl : (cs.take (p * 10)).length = p * 10 := by simp; omega
    rw [List.append_assoc]
    exact Blk.set10 hl h1'
  · simp; omega
  · by_cases e : j = k
    · subst e
      refine ⟨S, sc, J, jc, Q, qc, ?_, hS, ownsRow_keep (T := 46) hJ (by decide) hkp, hQ⟩
      rw [hp, show (((p : Int) + 1).toNat - 1) * 10 = p * 10 by omega]
      exact C10_at ho rfl
    · obtain ⟨S', sc', J', jc', Q', qc', a, b, c, d⟩ := h3 j hj (by omega)
      refine ⟨S', sc', J', jc', Q', qc', C10_off ho rfl a ?_, b, ownsRow_keep (T := 46) c (by decide) hkp, d⟩
      have hj2 := Nt.rot_rng (y := y) (k := n.nodes.length) (u := (j : Int) + 1) (by omega) (by omega)
      have hne : Nt.rot y n.nodes.length ((j : Int) + 1) ≠ (p : Int) + 1 := fun q => by
        have e1 := Nt.rot_back (y := y) (k := n.nodes.length) (u := (j : Int) + 1) (by omega) (by omega)
        have e2 := Nt.rot_back (y := y) (k := n.nodes.length) (u := (k : Int) + 1) (by omega) (by omega)
        rw [q] at e1
        rw [hp] at e2
        omega
      omega
theorem Placed.step2 {w wx : World} {B g : Nat} {n : NetD} {y : Int} {k p : Nat} (h : Placed w wx B g n y k) (hk : k < n.nodes.length) (hp : Nt.rot y n.nodes.length ((k : Int) + 1) = (p : Int) + 1) {S : Option Addr} {sc : Nat} {J : Option Addr} {jc : Nat} {Q : Option Addr} {qc : Nat}
    (hS : Ints .i64 w S n.nodes[k].op.s ∧ n.nodes[k].op.s.length ≤ sc ∧ sc ≤ 9223372036854775807) (hJ : wx.ownsRow B 3 1 (.slice J n.nodes[k].ins.length jc) n.nodes[k].ins.length ((n.nodes[k].ins.map (Nt.rot y n.nodes.length)).map (Value.int .i64))) (hQ : Shps w Q n.nodes[k].p ∧ n.nodes[k].p.length ≤ qc ∧ qc ≤ 9223372036854775807) (hl : Later w wx) (hg : w.heap.size ≤ g) :
    Placed w (set10 wx g (p * 10) [.int .i64 n.nodes[k].op.kind, .int .i64 n.nodes[k].op.k, .int .i64 n.nodes[k].op.width, .int .i64 n.nodes[k].op.step, .int .i64 n.nodes[k].op.side, .int .i64 n.nodes[k].op.frm, .int .i64 n.nodes[k].op.to, .slice S n.nodes[k].op.s.length sc, .slice J n.nodes[k].ins.length jc, .slice Q n.nodes[k].p.length qc]).drew B g n y (k + 1) ∧ Keep 46 wx (set10 wx g (p * 10) [.int .i64 n.nodes[k].op.kind, .int .i64 n.nodes[k].op.k, .int .i64 n.nodes[k].op.width, .int .i64 n.nodes[k].op.step, .int .i64 n.nodes[k].op.side, .int .i64 n.nodes[k].op.frm, .int .i64 n.nodes[k].op.to, .slice S n.nodes[k].op.s.length sc, .slice J n.nodes[k].ins.length jc, .slice Q n.nodes[k].p.length qc]).drew ∧ Later w (set10 wx g (p * 10) [.int .i64 n.nodes[k].op.kind, .int .i64 n.nodes[k].op.k, .int .i64 n.nodes[k].op.width, .int .i64 n.nodes[k].op.step, .int .i64 n.nodes[k].op.side, .int .i64 n.nodes[k].op.frm, .int .i64 n.nodes[k].op.to, .slice S n.nodes[k].op.s.length sc, .slice J n.nodes[k].ins.length jc, .slice Q n.nodes[k].p.length qc]).drew := by
  obtain ⟨q1, q2⟩ := h.step hk hp hS hJ hQ
  have q3 : Later w (set10 wx g (p * 10) [.int .i64 n.nodes[k].op.kind, .int .i64 n.nodes[k].op.k, .int .i64 n.nodes[k].op.width, .int .i64 n.nodes[k].op.step, .int .i64 n.nodes[k].op.side, .int .i64 n.nodes[k].op.frm, .int .i64 n.nodes[k].op.to, .slice S n.nodes[k].op.s.length sc, .slice J n.nodes[k].ins.length jc, .slice Q n.nodes[k].p.length qc]) := Later.set10 (o := p * 10) (l := [.int .i64 n.nodes[k].op.kind, .int .i64 n.nodes[k].op.k, .int .i64 n.nodes[k].op.width, .int .i64 n.nodes[k].op.step, .int .i64 n.nodes[k].op.side, .int .i64 n.nodes[k].op.frm, .int .i64 n.nodes[k].op.to, .slice S n.nodes[k].op.s.length sc, .slice J n.nodes[k].ins.length jc, .slice Q n.nodes[k].p.length qc]) hl hg
  exact ⟨q1.later ((Later.refl _).drew), q2.trans (Keep.of_later ((Later.refl _).drew)), q3.drew⟩
theorem Placed.nodes {w wx : World} {B g : Nat} {n : NetD} {y : Int} (h : Placed w wx B g n y n.nodes.length) (hl : Later w wx) (hn : ∀ v ∈ n.nodes, v.ins.length ≤ 1048576) : Nodes wx (some ⟨g, 0, none⟩) (Nt.rotNet n y).nodes := fun q hq => by
  obtain ⟨cs, h1, h2, h3⟩ := h
  rw [Nt.rotNet_at hq]
  rw [Nt.rotNet_len] at hq
  have hr := Nt.rot_rng (y := -y) (k := n.nodes.length) (u := (q : Int) + 1) (by omega) (by omega)
  have hb := Nt.rot_rot (y := y) (k := n.nodes.length) (u := (q : Int) + 1) (by omega) (by omega)
  generalize Nt.rot (-y) n.nodes.length ((q : Int) + 1) = u at *
  obtain ⟨j, rfl⟩ : ∃ j : Nat, u = (j : Int) + 1 := ⟨(u - 1).toNat, by omega⟩
  have hj : j < n.nodes.length := by omega
  rw [Nt.node_at hj]
  obtain ⟨S, sc, J, jc, Q, qc, a, b, c, d⟩ := h3 j hj hj
  rw [hb, show (((q : Int) + 1).toNat - 1) * 10 = q * 10 by omega] at a
  have hin := hn _ (List.getElem_mem hj)
  generalize n.nodes[j] = v at *
  have hlen : v.ins.length = (v.ins.map (Nt.rot y n.nodes.length)).length := by simp
  have hJ : Ints .i64 wx J (v.ins.map (Nt.rot y n.nodes.length)) ∧ (v.ins.map (Nt.rot y n.nodes.length)).length ≤ jc ∧ jc ≤ 9223372036854775807 := by
    rw [hlen] at c
    exact own_ints c
  have hc : ∀ i, i < 10 → wx.cell? ⟨g, q * 10 + i, none⟩ = [Value.int .i64 v.op.kind, .int .i64 v.op.k, .int .i64 v.op.width, .int .i64 v.op.step, .int .i64 v.op.side, .int .i64 v.op.frm, .int .i64 v.op.to, .slice S v.op.s.length sc, .slice J v.ins.length jc, .slice Q v.p.length qc][i]? := fun i hi => by rw [h1.cell, List.getElem?_toArray]; exact a i hi
  refine ⟨g, 0, S, sc, J, jc, Q, qc, rfl, h1.lt, ?_, ?_, ?_, ?_, ?_, ?_, ?_, ?_, ?_, ?_, ⟨b.1.below hl (Nat.le_refl _), b.2⟩, hJ, d.1.below hl (Nat.le_refl _), d.2⟩
  all_goals rw [Nat.zero_add]
  · exact hc 0 (by omega)
  · exact hc 1 (by omega)
  · exact hc 2 (by omega)
  · exact hc 3 (by omega)
  · exact hc 4 (by omega)
  · exact hc 5 (by omega)
  · exact hc 6 (by omega)
  · exact hc 7 (by omega)
  · show _ = some (Value.slice J (v.ins.map (Nt.rot y n.nodes.length)).length jc)
    rw [← hlen]
    exact hc 8 (by omega)
  · exact hc 9 (by omega)
theorem Blk.newR {w : World} {g : Nat} (t : TypeId) (cs : Array Value) (h : g = w.heap.size) : Blk (w.alloc (.cells cs t)) g t cs := by subst h; exact Blk.new w t cs
theorem Blk.set2R {w : World} {g : Nat} {t : TypeId} {a b : Value} (h : Blk w g t #[a, b]) (x y : Value) : Blk ((w.setCell ⟨g, 0, none⟩ x).setCell ⟨g, 1, none⟩ y) g t #[x, y] := (h.set_ 0 x).set_ 1 y
theorem Blk.farR {w : World} {g : Nat} {t : TypeId} {cs : Array Value} (h : Blk w g t cs) {b i : Nat} (hp : g ≠ b) (u : Value) : Blk (w.setCell ⟨b, i, none⟩ u) g t cs := h.far (p := ⟨b, i, none⟩) hp u
theorem Blk.set8 {w : World} {g : Nat} {t : TypeId} {a0 a1 a2 a3 a4 a5 a6 a7 a8 a9 : Value} (h : Blk w g t #[a0, a1, a2, a3, a4, a5, a6, a7, a8, a9]) (x : Value) : Blk (w.setCell ⟨g, 8, none⟩ x) g t #[a0, a1, a2, a3, a4, a5, a6, a7, x, a9] := h.set_ 8 x
end Go.Proofs.Ytjkhpbngpceenab
