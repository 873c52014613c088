/- The plain law of layer 11: which nets are right, their order, shapes and loss. -/
import Derived.Test.YtjkhpbngpceenaaOpP
import Derived.Test.YtjkhpbngpceenaaKahn
namespace Go.Proofs.Ytjkhpbngpceenaa
structure NodeD where
  op : OpD
  ins : List Int
  p : List (List Int)
deriving DecidableEq
structure NetD where
  inn : List Int
  nodes : List NodeD
deriving DecidableEq
namespace Nt
def none_ : NodeD := ⟨⟨0, 0, 0, 0, 0, 0, 0, []⟩, [], []⟩
def node (ns : List NodeD) (id : Int) : NodeD := ns.getD (id.toNat - 1) none_
def insF (ns : List NodeD) (id : Int) : List Int := (node ns id).ins
/-- The first op that isn't right, or number that is none. -/
def bads (n : Nat) : List NodeD → Int
  | [] => 0
  | v :: r => if Od.right v.op then (if v.ins.all (fun i => decide (0 ≤ i ∧ i ≤ n)) then bads n r else 11) else 21
def sorted (ns : List NodeD) : List Int := Kn.order (insF ns) ns.length
def pick (sh : List (List Int)) (l : List Int) : List (List Int) := l.map fun i => sh.getD i.toNat []
def layStep (ns : List NodeD) (sh : List (List Int)) (id : Int) : List Int × Int := Od.shape (node ns id).op (node ns id).p (pick sh (node ns id).ins)
def lay (ns : List NodeD) : List (List Int) → List Int → List (List Int) × Int
  | sh, [] => (sh, 0)
  | sh, id :: r => if (layStep ns sh id).2 = 0 then lay ns (sh.set id.toNat (layStep ns sh id).1) r else ([], (layStep ns sh id).2)
def start (n : NetD) : List (List Int) := n.inn :: List.replicate n.nodes.length []
def isUsed (ns : List NodeD) (id : Int) : Bool := ns.any fun v => v.ins.contains id
def nums (n : Nat) : List Int := (List.range (n + 1)).map fun i : Nat => (i : Int)
def unused (ns : List NodeD) : List Int := (nums ns.length).filter fun id => !isUsed ns id
def loss (ns : List NodeD) : Int := (unused ns).getLastD 0
def lossOk (ns : List NodeD) : Bool := decide ((unused ns).length = 1 ∧ loss ns ≠ 0)
def shapes (n : NetD) : List (List Int) := (lay n.nodes (start n) (sorted n.nodes)).1
/-- What is first wrong. -/
def check (n : NetD) : Int :=
  if n.nodes.length < 1 ∨ 512 < n.nodes.length then 12
  else if Sh.right n.inn = false then 20
  else if bads n.nodes.length n.nodes ≠ 0 then bads n.nodes.length n.nodes
  else if (sorted n.nodes).length ≠ n.nodes.length then 22
  else if (lay n.nodes (start n) (sorted n.nodes)).2 ≠ 0 then (lay n.nodes (start n) (sorted n.nodes)).2
  else if lossOk n.nodes = false then 23
  else if Safe.prod ((shapes n).getD (loss n.nodes).toNat []) ≠ 1 then 23
  else 0
def users (n : NetD) (id : Int) : List Int := (Kn.ids n.nodes.length).filter fun u => (insF n.nodes u).contains id
def chainGo (ns : List NodeD) : Int → List Int → Bool
  | _, [] => true
  | last, id :: r => decide (insF ns id = [last]) && chainGo ns id r
def chain (n : NetD) : Bool := decide (check n = 0) && chainGo n.nodes 0 (sorted n.nodes)
def params (n : NetD) : List (List Int) := n.nodes.flatMap (·.p)

theorem bads_take {n : Nat} : ∀ {ns : List NodeD} {k : Nat}, (∀ j (hj : j < ns.length), j < k → Od.right ns[j].op = true ∧ ns[j].ins.all (fun i => decide (0 ≤ i ∧ i ≤ n)) = true) → bads n ns = bads n (ns.drop k)
  | _, 0, _ => by simp
  | [], _ + 1, _ => by simp
  | v :: r, k + 1, h => by
    have h0 := h 0 (by simp) (by omega)
    simp only [List.getElem_cons_zero] at h0
    rw [bads, if_pos h0.1, if_pos h0.2, List.drop_succ_cons]
    exact bads_take fun j hj hk => by have := h (j + 1) (by simp; omega) (by omega); simpa using this
theorem bads_all {n : Nat} {ns : List NodeD} (h : bads n ns = 0) : ∀ v ∈ ns, Od.right v.op = true ∧ ∀ i ∈ v.ins, 0 ≤ i ∧ i ≤ n := by
  induction ns with
  | nil => simp
  | cons v r ih =>
    rw [bads] at h
    split at h
    · rename_i h1
      split at h
      · rename_i h2
        intro u hu
        rcases List.mem_cons.1 hu with rfl | hu
        · exact ⟨h1, by simpa using h2⟩
        · exact ih h u hu
      · simp at h
    · simp at h
theorem node_at {ns : List NodeD} {k : Nat} (h : k < ns.length) : node ns ((k : Int) + 1) = ns[k] := by
  unfold node
  rw [show ((k : Int) + 1).toNat - 1 = k by omega, List.getD_eq_getElem?_getD, List.getElem?_eq_getElem h]
  rfl
theorem node_in {ns : List NodeD} {id : Int} (h : 1 ≤ id ∧ id ≤ ns.length) : ∃ hk : (id - 1).toNat < ns.length, node ns id = ns[(id - 1).toNat] := by
  refine ⟨by omega, ?_⟩
  unfold node
  rw [show id.toNat - 1 = (id - 1).toNat by omega, List.getD_eq_getElem?_getD, List.getElem?_eq_getElem (by omega)]
  rfl
theorem node_mem {ns : List NodeD} {id : Int} (h : 1 ≤ id ∧ id ≤ ns.length) : node ns id ∈ ns := by
  obtain ⟨hk, e⟩ := node_in h
  rw [e]
  exact List.getElem_mem hk

theorem lay_append (ns : List NodeD) : ∀ (a b : List Int) (sh : List (List Int)), lay ns sh (a ++ b) = if (lay ns sh a).2 = 0 then lay ns (lay ns sh a).1 b else ([], (lay ns sh a).2)
  | [], b, sh => by simp [lay]
  | id :: a, b, sh => by
    rw [List.cons_append, lay, lay]
    split
    · exact lay_append ns a b _
    · simp
theorem lay_snoc {ns : List NodeD} {a : List Int} {sh s1 : List (List Int)} {id : Int} (h : lay ns sh a = (s1, 0)) (hs : (layStep ns s1 id).2 = 0) : lay ns sh (a ++ [id]) = (s1.set id.toNat (layStep ns s1 id).1, 0) := by
  rw [lay_append, h]
  simp [lay, hs]
theorem lay_fail {ns : List NodeD} {a b : List Int} {sh s1 : List (List Int)} {id : Int} (h : lay ns sh a = (s1, 0)) (hs : (layStep ns s1 id).2 ≠ 0) : lay ns sh (a ++ id :: b) = ([], (layStep ns s1 id).2) := by
  rw [lay_append, h]
  simp [lay, hs]
theorem lay_len {ns : List NodeD} : ∀ {a : List Int} {sh : List (List Int)}, (lay ns sh a).2 = 0 → (lay ns sh a).1.length = sh.length
  | [], _, _ => rfl
  | id :: a, sh, h => by
    rw [lay] at h ⊢
    split at h
    · rename_i h1; rw [if_pos h1]; rw [lay_len h]; simp
    · rename_i h1; exact absurd h h1
/-- The shapes of what is laid are right. -/
def Good (a : List Int) (sh : List (List Int)) : Prop := ∀ i : Int, (i = 0 ∨ i ∈ a) → Sh.right (sh.getD i.toNat []) = true
theorem Good.push {a : List Int} {sh : List (List Int)} {id : Int} {s : List Int} (h : Good a sh) (hs : Sh.right s = true) (hid : id.toNat < sh.length) (h0 : ∀ i ∈ a, 0 ≤ i) (h1 : 1 ≤ id) : Good (a ++ [id]) (sh.set id.toNat s) := by
  intro i hi
  by_cases e : i = id
  · subst e
    rw [List.getD_eq_getElem?_getD, List.getElem?_set_self hid]
    exact hs
  · have hi' : i = 0 ∨ i ∈ a := by
      rcases hi with hi | hi
      · exact .inl hi
      · rcases List.mem_append.1 hi with hi | hi
        · exact .inr hi
        · simp at hi; exact absurd hi e
    have hn : 0 ≤ i := by
      rcases hi' with rfl | hi'
      · omega
      · exact h0 i hi'
    rw [List.getD_eq_getElem?_getD, List.getElem?_set_ne (by omega), ← List.getD_eq_getElem?_getD]
    exact h i hi'
theorem Good.pick {a : List Int} {sh : List (List Int)} {l : List Int} (h : Good a sh) (hl : ∀ i ∈ l, i = 0 ∨ i ∈ a) : (pick sh l).all Sh.right = true := by
  unfold Nt.pick
  rw [List.all_map, List.all_eq_true]
  intro i hi
  exact h i (hl i hi)
theorem start_good (n : NetD) (h : Sh.right n.inn = true) : Good [] (start n) := by
  intro i hi
  simp at hi
  subst hi
  simpa [start] using h
theorem nums_length (n : Nat) : (nums n).length = n + 1 := by simp [nums]
theorem mem_nums {n : Nat} {u : Int} : u ∈ nums n ↔ 0 ≤ u ∧ u ≤ n := by
  simp only [nums, List.mem_map, List.mem_range]
  constructor
  · rintro ⟨a, h, rfl⟩; omega
  · intro h; exact ⟨u.toNat, by omega, by omega⟩
theorem nums_succ (n : Nat) : nums (n + 1) = nums n ++ [((n + 1 : Nat) : Int)] := by simp [nums, List.range_succ]
theorem chainGo_append (ns : List NodeD) : ∀ (a b : List Int) (l : Int), chainGo ns l (a ++ b) = (chainGo ns l a && chainGo ns (a.getLastD l) b)
  | [], b, l => by simp [chainGo]
  | x :: a, b, l => by
    rw [List.cons_append, chainGo, chainGo, chainGo_append ns a b x, Bool.and_assoc]
    congr 3
    cases a with
    | nil => simp
    | cons y r => simp [List.getLast?_eq_some_getLast (l := y :: r) (by simp)]
theorem loss_mem {ns : List NodeD} (h : lossOk ns = true) : unused ns = [loss ns] ∧ 1 ≤ loss ns ∧ loss ns ≤ ns.length := by
  simp [lossOk] at h
  obtain ⟨h1, h2⟩ := h
  match hu : unused ns, h1 with
  | [a], _ =>
    have e : loss ns = a := by simp [loss, hu]
    have hm : a ∈ unused ns := by rw [hu]; simp
    have := (mem_nums.1 (List.mem_filter.1 hm).1)
    refine ⟨by rw [e], by omega, by omega⟩
/-- A right net, in one. -/
theorem check_ok {n : NetD} (h : check n = 0) : 1 ≤ n.nodes.length ∧ n.nodes.length ≤ 512 ∧ Sh.right n.inn = true ∧ bads n.nodes.length n.nodes = 0 ∧ (sorted n.nodes).length = n.nodes.length ∧ (lay n.nodes (start n) (sorted n.nodes)).2 = 0 ∧ lossOk n.nodes = true ∧ Safe.prod ((shapes n).getD (loss n.nodes).toNat []) = 1 := by
  unfold check at h
  split at h
  · omega
  · rename_i h1
    split at h
    · omega
    · rename_i h2
      split at h
      · rename_i h3; exact absurd h h3
      · rename_i h3
        split at h
        · omega
        · rename_i h4
          split at h
          · rename_i h5; exact absurd h h5
          · rename_i h5
            split at h
            · omega
            · rename_i h6
              split at h
              · omega
              · rename_i h7
                simp at h2 h3 h4 h5 h6 h7
                exact ⟨by omega, by omega, h2, h3, h4, h5, h6, by simpa using h7⟩
/-- All shapes are right behind the prefix a of the order. -/
theorem lay_good {n : NetD} (hin : Sh.right n.inn = true) : ∀ k, k ≤ (sorted n.nodes).length → (lay n.nodes (start n) ((sorted n.nodes).take k)).2 = 0 → Good ((sorted n.nodes).take k) (lay n.nodes (start n) ((sorted n.nodes).take k)).1
  | 0, _, _ => by simpa [lay] using start_good n hin
  | k + 1, hk, h => by
    have hlt : k < (sorted n.nodes).length := by omega
    have hrng : ∀ u ∈ sorted n.nodes, 1 ≤ u ∧ u ≤ n.nodes.length := (Kn.go_ok (insF n.nodes) n.nodes.length n.nodes.length).rng
    rw [List.take_succ_eq_append_getElem hlt] at h ⊢
    rw [lay_append] at h
    split at h
    · rename_i h1
      have ih := lay_good hin k (by omega) h1
      generalize hsh : lay n.nodes (start n) ((sorted n.nodes).take k) = S at *
      obtain ⟨s1, e⟩ := S
      simp at h1
      subst h1
      have hlen : s1.length = n.nodes.length + 1 := by
        have := lay_len (ns := n.nodes) (a := (sorted n.nodes).take k) (sh := start n) (by rw [hsh])
        rw [hsh] at this
        simpa [start] using this
      by_cases hs : (layStep n.nodes s1 (sorted n.nodes)[k]).2 = 0
      · rw [lay_snoc hsh hs]
        have hr := hrng _ (List.getElem_mem hlt)
        exact ih.push (Od.shape_right hs) (by simp only; omega) (fun i hi => by have := hrng i (List.mem_of_mem_take hi); omega) hr.1
      · simp [lay, hs] at h
    · rename_i h1; exact absurd h h1
theorem shapes_good {n : NetD} (h : check n = 0) : ∀ i : Int, 0 ≤ i → i ≤ n.nodes.length → Sh.right ((shapes n).getD i.toNat []) = true := by
  obtain ⟨h1, h2, h3, h4, h5, h6, h7, h8⟩ := check_ok h
  have := lay_good h3 (sorted n.nodes).length (Nat.le_refl _) (by rw [List.take_length]; exact h6)
  rw [List.take_length] at this
  intro i hi hi2
  refine this i ?_
  by_cases h0 : i = 0
  · exact .inl h0
  · exact .inr ((Kn.order_full h5 i).2 ⟨by omega, hi2⟩)
theorem shapes_len {n : NetD} (h : check n = 0) : (shapes n).length = n.nodes.length + 1 := by
  obtain ⟨h1, h2, h3, h4, h5, h6, h7, h8⟩ := check_ok h
  have := lay_len h6
  simpa [shapes, start] using this
end Nt
end Go.Proofs.Ytjkhpbngpceenaa
