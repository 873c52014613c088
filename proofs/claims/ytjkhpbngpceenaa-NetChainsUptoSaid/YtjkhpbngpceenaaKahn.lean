/- The order of a net's nodes: Kahn's way with a sorted row of ready ones is the document's way. Plain. -/
namespace Go.Proofs.Ytjkhpbngpceenaa
namespace Kn
/-- The numbers 1 .. n. -/
def ids (n : Nat) : List Int := (List.range n).map fun i => ((i + 1 : Nat) : Int)
/-- How many ins of a node, of those that are nodes, are not yet out. -/
def wt (I : Int → List Int) (out : List Int) (u : Int) : Nat := ((I u).filter fun i => !(i == 0) && !out.contains i).length
def free (I : Int → List Int) (out : List Int) (u : Int) : Bool := !out.contains u && (I u).all fun i => i == 0 || out.contains i
def ready (I : Int → List Int) (n : Nat) (out : List Int) : List Int := (ids n).filter (free I out)
def step (I : Int → List Int) (n : Nat) (out : List Int) : List Int := match ready I n out with
  | [] => out
  | id :: _ => out ++ [id]
def go (I : Int → List Int) (n : Nat) : Nat → List Int
  | 0 => []
  | k + 1 => step I n (go I n k)
/-- The document's order. -/
def order (I : Int → List Int) (n : Nat) : List Int := go I n n
/-- Who uses a number, as often as it does. -/
def users (I : Int → List Int) (n : Nat) (id : Int) : List Int := (ids n).flatMap fun u => List.replicate ((I u).count id) u

theorem mem_ids {n : Nat} {u : Int} : u ∈ ids n ↔ 1 ≤ u ∧ u ≤ n := by
  simp only [ids, List.mem_map, List.mem_range]
  constructor
  · rintro ⟨a, h, rfl⟩; omega
  · intro h; exact ⟨(u - 1).toNat, by omega, by omega⟩
theorem ids_length (n : Nat) : (ids n).length = n := by simp [ids]
theorem ids_get {n k : Nat} (h : k < n) : (ids n)[k]? = some ((k : Int) + 1) := by simp [ids, h]
theorem ids_pairwise (n : Nat) : (ids n).Pairwise (· < ·) := by
  unfold ids
  rw [List.pairwise_map]
  exact List.pairwise_lt_range.imp (by intro a b h; omega)
theorem ids_nodup (n : Nat) : (ids n).Nodup := (ids_pairwise n).imp (by intro a b h; omega)
theorem free_iff (I : Int → List Int) (out : List Int) (u : Int) : free I out u = (!out.contains u && wt I out u == 0) := by
  unfold free wt
  congr 1
  rw [Bool.eq_iff_iff]
  simp only [List.all_eq_true, beq_iff_eq, List.length_eq_zero_iff, List.filter_eq_nil_iff]
  refine forall_congr' fun i => forall_congr' fun _ => ?_
  simp
  grind
theorem mem_ready {I : Int → List Int} {n : Nat} {out : List Int} {u : Int} : u ∈ ready I n out ↔ (1 ≤ u ∧ u ≤ n) ∧ u ∉ out ∧ wt I out u = 0 := by
  unfold ready
  rw [List.mem_filter, mem_ids, free_iff]
  simp
theorem ready_sorted (I : Int → List Int) (n : Nat) (out : List Int) : (ready I n out).Pairwise (· < ·) := (ids_pairwise n).filter _

/-- What is out is out of 1..n, once, and waits for nothing. -/
structure Ok (I : Int → List Int) (n : Nat) (out : List Int) : Prop where
  nodup : out.Nodup
  rng : ∀ u ∈ out, 1 ≤ u ∧ u ≤ n
  done : ∀ u ∈ out, wt I out u = 0
theorem wt_le (I : Int → List Int) (out more : List Int) (u : Int) : wt I (out ++ more) u ≤ wt I out u := by
  unfold wt
  generalize I u = l
  induction l with
  | nil => simp
  | cons a r ih =>
    rw [List.filter_cons, List.filter_cons]
    by_cases hz : a = 0
    · simp [hz]; simpa using ih
    · by_cases ho : a ∈ out
      · simp [ho]; simpa using ih
      · by_cases hm : a ∈ more
        · simp [hz, ho, hm]; simp at ih; omega
        · simp [hz, ho, hm]; simpa using ih
theorem Ok.nil (I : Int → List Int) (n : Nat) : Ok I n [] := ⟨by simp, by simp, by simp⟩
theorem Ok.push {I : Int → List Int} {n : Nat} {out : List Int} {u : Int} (h : Ok I n out) (hu : u ∈ ready I n out) : Ok I n (out ++ [u]) := by
  obtain ⟨h1, h2, h3⟩ := mem_ready.1 hu
  refine ⟨?_, ?_, ?_⟩
  · rw [List.nodup_append]
    exact ⟨h.nodup, by simp, by intro a ha b hb; simp at hb; subst hb; intro e; subst e; exact h2 ha⟩
  · intro v hv
    rcases List.mem_append.1 hv with hv | hv
    · exact h.rng v hv
    · simp at hv; subst hv; exact h1
  · intro v hv
    rcases List.mem_append.1 hv with hv | hv
    · have := h.done v hv; have := wt_le I out [u] v; omega
    · simp at hv; subst hv; have := wt_le I out [v] v; omega
theorem wt_push {I : Int → List Int} {out : List Int} {u id : Int} (h0 : id ≠ 0) (hid : id ∉ out) : wt I (out ++ [id]) u + (I u).count id = wt I out u := by
  unfold wt
  generalize I u = l
  induction l with
  | nil => simp
  | cons a r ih =>
    rw [List.filter_cons, List.filter_cons, List.count_cons]
    by_cases ha : a = id
    · subst ha
      simp [h0, hid]
      simp at ih
      omega
    · by_cases hz : a = 0
      · subst hz
        have : ¬ (0 = id) := fun e => h0 e.symm
        simp [this]
        simp at ih
        exact ih
      · by_cases ho : a ∈ out
        · simp [ha, ho]; simp at ih; exact ih
        · simp [ha, hz, ho]; simp at ih; omega
theorem count_users (I : Int → List Int) (n : Nat) (id u : Int) (hu : u ∈ ids n) : (users I n id).count u = (I u).count id := by
  unfold users
  have key : ∀ l : List Int, l.Nodup → (l.flatMap fun u => List.replicate ((I u).count id) u).count u = if u ∈ l then (I u).count id else 0 := by
    intro l hl
    induction l with
    | nil => simp
    | cons a r ih =>
      rw [List.nodup_cons] at hl
      rw [List.flatMap_cons, List.count_append, ih hl.2, List.count_replicate]
      by_cases e : a = u
      · subst e; simp [hl.1]
      · have : ¬ (u = a) := fun h => e h.symm
        simp [e, this]
  rw [key _ (ids_nodup n), if_pos hu]
theorem mem_users {I : Int → List Int} {n : Nat} {id u : Int} (h : u ∈ users I n id) : u ∈ ids n ∧ id ∈ I u := by
  unfold users at h
  rw [List.mem_flatMap] at h
  obtain ⟨a, ha, hr⟩ := h
  rw [List.mem_replicate] at hr
  obtain ⟨h1, rfl⟩ := hr
  exact ⟨ha, List.count_pos_iff.1 (by omega)⟩

/-- Amid the users of id: the first k of them are told. -/
def mid (I : Int → List Int) (out us : List Int) (u : Int) : Nat := wt I out u - us.count u
def midReady (I : Int → List Int) (n : Nat) (out : List Int) (id : Int) (us : List Int) : List Int := (ids n).filter fun u => !(out ++ [id]).contains u && mid I out us u == 0
theorem mid_start {I : Int → List Int} {n : Nat} {out r : List Int} {id : Int} (h : ready I n out = id :: r) : midReady I n out id [] = r := by
  have hs := ready_sorted I n out
  rw [h, List.pairwise_cons] at hs
  have e : midReady I n out id [] = (ready I n out).filter (fun u => !(u == id)) := by
    unfold midReady ready
    rw [List.filter_filter]
    apply List.filter_congr
    intro u _
    rw [free_iff]
    simp only [mid, List.count_nil, Nat.sub_zero]
    simp [Bool.and_assoc, Bool.and_comm, List.contains_eq_mem]
    grind
  rw [e, h, List.filter_cons]
  simp
  intro a ha
  have := hs.1 a ha
  omega
theorem mid_end {I : Int → List Int} {n : Nat} {out : List Int} {id : Int} (hid : id ∈ ready I n out) {u : Int} (hu : u ∈ ids n) : mid I out (users I n id) u = wt I (out ++ [id]) u := by
  obtain ⟨h1, h2, h3⟩ := mem_ready.1 hid
  unfold mid
  rw [count_users I n id u hu]
  have := wt_push (I := I) (u := u) (show id ≠ 0 by omega) h2
  omega
theorem mid_end_ready {I : Int → List Int} {n : Nat} {out : List Int} {id : Int} (hid : id ∈ ready I n out) : midReady I n out id (users I n id) = ready I n (out ++ [id]) := by
  unfold midReady ready
  apply List.filter_congr
  intro u hu
  rw [free_iff, mid_end hid hu]
/-- One more user is told. -/
theorem mid_pos {I : Int → List Int} {n : Nat} {out a b : List Int} {id u : Int} (hok : Ok I n out) (hid : id ∈ ready I n out) (hu : users I n id = a ++ u :: b) :
    1 ≤ mid I out a u ∧ u ∉ out ++ [id] ∧ 1 ≤ u ∧ u ≤ n ∧ mid I out (a ++ [u]) u + 1 = mid I out a u := by
  have hm : u ∈ users I n id := by rw [hu]; simp
  obtain ⟨hi, hin⟩ := mem_users hm
  obtain ⟨h1, h2, h3⟩ := mem_ready.1 hid
  have hc := count_users I n id u hi
  have hw := wt_push (I := I) (u := u) (show id ≠ 0 by omega) h2
  have hp : 0 < (I u).count id := List.count_pos_iff.2 hin
  rw [hu, List.count_append, List.count_cons_self] at hc
  have hr := mem_ids.1 hi
  refine ⟨by unfold mid; omega, ?_, hr.1, hr.2, by unfold mid; rw [List.count_append]; simp; omega⟩
  intro ho
  rcases List.mem_append.1 ho with ho | ho
  · have := hok.done u ho; omega
  · simp at ho; subst ho; omega
theorem mid_other {I : Int → List Int} {out a : List Int} {u v : Int} (h : v ≠ u) : mid I out (a ++ [u]) v = mid I out a v := by
  unfold mid
  rw [List.count_append]
  have : ¬ (u = v) := fun e => h e.symm
  simp [this]
/-- It still waits: the ready ones are the same. -/
theorem mid_stay {I : Int → List Int} {n : Nat} {out a b : List Int} {id u : Int} (hok : Ok I n out) (hid : id ∈ ready I n out) (hu : users I n id = a ++ u :: b) (h : mid I out (a ++ [u]) u ≠ 0) :
    midReady I n out id (a ++ [u]) = midReady I n out id a := by
  unfold midReady
  apply List.filter_congr
  intro v _
  by_cases e : v = u
  · subst e
    have := (mid_pos hok hid hu).1
    have e1 : (mid I out (a ++ [v]) v == 0) = false := by simp [h]
    have e2 : (mid I out a v == 0) = false := by simp; omega
    rw [e1, e2]
  · rw [mid_other e]
theorem split_sorted {l : List Int} (h : l.Pairwise (· < ·)) {u : Int} (hu : u ∈ l) : ∃ A B, l = A ++ u :: B ∧ (∀ x ∈ A, x < u) ∧ ∀ x ∈ B, u < x := by
  obtain ⟨A, B, rfl⟩ := List.append_of_mem hu
  rw [List.pairwise_append, List.pairwise_cons] at h
  exact ⟨A, B, rfl, fun x hx => h.2.2 x hx u (by simp), fun x hx => h.2.1.1 x hx⟩
/-- It waits no more: it is put among the ready ones, at its place. -/
theorem mid_put {I : Int → List Int} {n : Nat} {out a b : List Int} {id u : Int} {at_ : Nat} (hok : Ok I n out) (hid : id ∈ ready I n out) (hu : users I n id = a ++ u :: b) (h : mid I out (a ++ [u]) u = 0)
    (hl : ∀ j (hj : j < (midReady I n out id a).length), j < at_ → (midReady I n out id a)[j] < u) (hg : ∀ j (hj : j < (midReady I n out id a).length), at_ ≤ j → u ≤ (midReady I n out id a)[j]) (hat : at_ ≤ (midReady I n out id a).length) :
    midReady I n out id (a ++ [u]) = (midReady I n out id a).take at_ ++ u :: (midReady I n out id a).drop at_ := by
  obtain ⟨p1, p2, p3, p4, p5⟩ := mid_pos hok hid hu
  obtain ⟨A, B, hAB, hA, hB⟩ := split_sorted (ids_pairwise n) (mem_ids.2 ⟨p3, p4⟩)
  have hn1 : ((!(out ++ [id]).contains u && mid I out a u == 0)) = false := by
    have : (mid I out a u == 0) = false := by simp; omega
    rw [this]; simp
  have hn2 : ((!(out ++ [id]).contains u && mid I out (a ++ [u]) u == 0)) = true := by
    rw [h]; simpa using p2
  have hc : ∀ l : List Int, (∀ x ∈ l, x ≠ u) → l.filter (fun v => !(out ++ [id]).contains v && mid I out (a ++ [u]) v == 0) = l.filter (fun v => !(out ++ [id]).contains v && mid I out a v == 0) := fun l hl => by
    apply List.filter_congr
    intro v hv
    rw [mid_other (hl v hv)]
  have e1 : midReady I n out id (a ++ [u]) = A.filter (fun v => !(out ++ [id]).contains v && mid I out a v == 0) ++ u :: B.filter (fun v => !(out ++ [id]).contains v && mid I out a v == 0) := by
    unfold midReady
    rw [hAB, List.filter_append, List.filter_cons, if_pos hn2, hc A (fun x hx => by have := hA x hx; omega), hc B (fun x hx => by have := hB x hx; omega)]
  have e2 : midReady I n out id a = A.filter (fun v => !(out ++ [id]).contains v && mid I out a v == 0) ++ B.filter (fun v => !(out ++ [id]).contains v && mid I out a v == 0) := by
    unfold midReady
    rw [hAB, List.filter_append, List.filter_cons, hn1]
    simp
  rw [e1]
  generalize hX : A.filter (fun v => !(out ++ [id]).contains v && mid I out a v == 0) = X at e2
  generalize hY : B.filter (fun v => !(out ++ [id]).contains v && mid I out a v == 0) = Y at e2
  have hXl : ∀ x ∈ X, x < u := fun x hx => by rw [← hX] at hx; exact hA x ((List.mem_filter.1 hx).1)
  have hYl : ∀ x ∈ Y, u < x := fun x hx => by rw [← hY] at hx; exact hB x ((List.mem_filter.1 hx).1)
  generalize midReady I n out id a = M at *
  subst e2
  have hlen : at_ = X.length := by
    rcases Nat.lt_trichotomy at_ X.length with hh | hh | hh
    · have h1 := hg at_ (by rw [List.length_append]; omega) (Nat.le_refl _)
      rw [List.getElem_append_left hh] at h1
      have := hXl _ (List.getElem_mem hh)
      omega
    · exact hh
    · have h1 := hl X.length (by rw [List.length_append] at hat ⊢; omega) hh
      rw [List.length_append] at hat
      rw [List.getElem_append_right (Nat.le_refl _)] at h1
      have := hYl _ (List.getElem_mem (show X.length - X.length < Y.length by omega))
      omega
  subst hlen
  simp

/-- The steps of the order. -/
theorem go_ok (I : Int → List Int) (n k : Nat) : Ok I n (go I n k) := by
  induction k with
  | zero => exact Ok.nil I n
  | succ k ih =>
    rw [go, step]
    split
    · exact ih
    · rename_i id r h
      exact ih.push (by rw [h]; simp)
theorem go_stuck {I : Int → List Int} {n k : Nat} (h : ready I n (go I n k) = []) : ∀ j, go I n (k + j) = go I n k
  | 0 => rfl
  | j + 1 => by rw [← Nat.add_assoc, go, go_stuck h j, step, h]
theorem go_more {I : Int → List Int} {n k : Nat} {id : Int} {r : List Int} (h : ready I n (go I n k) = id :: r) : go I n (k + 1) = go I n k ++ [id] := by rw [go, step, h]
theorem go_len_le (I : Int → List Int) (n k : Nat) : (go I n k).length ≤ k := by
  induction k with
  | zero => simp [go]
  | succ k ih =>
    rw [go, step]
    split
    · omega
    · rw [List.length_append]; simp; omega
theorem len_le_of_nodup {l : List Int} {n : Nat} (h : l.Nodup) (hr : ∀ u ∈ l, 1 ≤ u ∧ u ≤ n) : l.length ≤ n := by
  induction n generalizing l with
  | zero =>
    cases l with
    | nil => simp
    | cons a r => have := hr a (by simp); omega
  | succ n ih =>
    have h1 : (l.erase ((n : Int) + 1)).length ≤ n := ih (h.erase _) fun u hu => by
      have hm := List.mem_of_mem_erase hu
      have := hr u hm
      have hne : u ≠ (n : Int) + 1 := by
        intro e
        subst e
        exact (List.Nodup.not_mem_erase h) hu
      omega
    rw [List.length_erase] at h1
    split at h1 <;> omega
theorem Ok.len {I : Int → List Int} {n : Nat} {out : List Int} (h : Ok I n out) : out.length ≤ n := len_le_of_nodup h.nodup h.rng
/-- Out of fuel or stuck: the order. -/
theorem go_len {I : Int → List Int} {n k : Nat} (h : (go I n k).length = k) : k ≤ n := by have := (go_ok I n k).len; omega
theorem order_of_stuck {I : Int → List Int} {n k : Nat} (hk : (go I n k).length = k) (h : ready I n (go I n k) = []) : order I n = go I n k := by
  have := go_len hk
  unfold order
  obtain ⟨j, rfl⟩ : ∃ j, n = k + j := ⟨n - k, by omega⟩
  exact go_stuck h j
/-- Each one comes behind its ins. -/
theorem go_behind (I : Int → List Int) (n k : Nat) : ∀ a u b, go I n k = a ++ u :: b → wt I a u = 0 := by
  induction k with
  | zero => intro a u b h; simp [go] at h
  | succ k ih =>
    intro a u b h
    rw [go, step] at h
    split at h
    · exact ih a u b h
    · rename_i id r hr
      rcases List.eq_nil_or_concat b with rfl | ⟨b', x, rfl⟩
      · have h2 := List.append_inj' h rfl
        obtain ⟨e1, e2⟩ := h2
        injection e2 with e2
        subst e2
        rw [← e1]
        exact (mem_ready.1 (show id ∈ ready I n (go I n k) by rw [hr]; simp)).2.2
      · rw [List.concat_eq_append, ← List.cons_append, ← List.append_assoc] at h
        exact ih a u b' (List.append_inj' h rfl).1
theorem order_behind (I : Int → List Int) (n : Nat) {a b : List Int} {u : Int} (h : order I n = a ++ u :: b) : ∀ i ∈ I u, i = 0 ∨ i ∈ a := by
  have := go_behind I n n a u b h
  unfold wt at this
  rw [List.length_eq_zero_iff, List.filter_eq_nil_iff] at this
  intro i hi
  have := this i hi
  simp at this
  by_cases h0 : i = 0
  · exact .inl h0
  · exact .inr (this h0)
theorem order_full {I : Int → List Int} {n : Nat} (h : (order I n).length = n) : ∀ u, u ∈ order I n ↔ 1 ≤ u ∧ u ≤ n := by
  intro u
  refine ⟨(go_ok I n n).rng u, fun hu => ?_⟩
  by_cases hm : u ∈ order I n
  · exact hm
  · have h1 : (u :: order I n).length ≤ n := len_le_of_nodup (by rw [List.nodup_cons]; exact ⟨hm, (go_ok I n n).nodup⟩) fun v hv => by
      rcases List.mem_cons.1 hv with rfl | hv
      · exact hu
      · exact (go_ok I n n).rng v hv
    rw [List.length_cons] at h1
    omega
/-- The first free one is the first of the ready ones. -/
theorem ready_first {I : Int → List Int} {n : Nat} {out : List Int} {id : Int} (h1 : 1 ≤ id) (h2 : id ≤ n) (hf : free I out id = true) (hn : ∀ u, 1 ≤ u → u < id → free I out u = false) : ∃ r, ready I n out = id :: r := by
  obtain ⟨A, B, hAB, hA, hB⟩ := split_sorted (ids_pairwise n) (mem_ids.2 ⟨h1, h2⟩)
  refine ⟨B.filter (free I out), ?_⟩
  unfold ready
  rw [hAB, List.filter_append, List.filter_cons, if_pos hf, List.filter_eq_nil_iff.2, List.nil_append]
  intro u hu
  have hm : u ∈ ids n := by rw [hAB]; simp [hu]
  have := hn u (mem_ids.1 hm).1 (hA u hu)
  simp [this]
theorem ready_none {I : Int → List Int} {n : Nat} {out : List Int} (hn : ∀ u : Int, 1 ≤ u → u ≤ n → free I out u = false) : ready I n out = [] := by
  unfold ready
  rw [List.filter_eq_nil_iff]
  intro u hu
  have := mem_ids.1 hu
  simp [hn u this.1 this.2]
theorem order_len_le (I : Int → List Int) (n : Nat) : (order I n).length ≤ n := go_len_le I n n
theorem order_rng (I : Int → List Int) (n : Nat) : ∀ u ∈ order I n, 1 ≤ u ∧ u ≤ n := (go_ok I n n).rng

/-- The nodes' ins are told, up to node i whole, and l of the next one's. -/
def uMid (I : Int → List Int) (i : Nat) (l : List Int) (id : Int) : List Int := if id = 0 then [] else users I i id ++ List.replicate (l.count id) ((i : Int) + 1)
def wMid (I : Int → List Int) (i : Nat) (l : List Int) (u : Int) : Nat := if 1 ≤ u ∧ u ≤ i then wt I [] u else if u = (i : Int) + 1 then (l.filter fun i => !(i == 0)).length else 0
theorem ids_succ (i : Nat) : ids (i + 1) = ids i ++ [((i : Int) + 1)] := by simp [ids, List.range_succ]
theorem wt_nil (I : Int → List Int) (u : Int) : wt I [] u = ((I u).filter fun i => !(i == 0)).length := by
  unfold wt
  congr 1
  apply List.filter_congr
  intro i _
  simp
theorem uMid_zero (I : Int → List Int) : uMid I 0 [] = fun _ => [] := by funext id; simp [uMid, users, ids]
theorem wMid_zero (I : Int → List Int) : wMid I 0 [] = fun _ => 0 := by
  funext u
  unfold wMid
  rw [if_neg (by omega)]
  split <;> simp
theorem uMid_next (I : Int → List Int) (i : Nat) : uMid I i (I ((i : Int) + 1)) = uMid I (i + 1) [] := by
  funext id
  unfold uMid users
  rw [ids_succ, List.flatMap_append]
  simp
theorem wMid_next (I : Int → List Int) (i : Nat) : wMid I i (I ((i : Int) + 1)) = wMid I (i + 1) [] := by
  funext u
  unfold wMid
  by_cases h : u = (i : Int) + 1
  · subst h
    rw [if_neg (by omega), if_pos rfl, if_pos (by omega), wt_nil]
  · by_cases h2 : 1 ≤ u ∧ u ≤ (i : Int)
    · rw [if_pos h2, if_pos (by omega)]
    · rw [if_neg h2, if_neg h, if_neg (by omega)]
      split <;> simp
theorem uMid_zero_in (I : Int → List Int) (i : Nat) (l : List Int) : uMid I i (l ++ [0]) = uMid I i l := by
  funext id
  unfold uMid
  split
  · rfl
  · rename_i h
    have : ¬ (0 = id) := fun e => h e.symm
    simp [List.count_append, this]
theorem wMid_zero_in (I : Int → List Int) (i : Nat) (l : List Int) : wMid I i (l ++ [0]) = wMid I i l := by
  funext u
  unfold wMid
  simp
theorem uMid_in {I : Int → List Int} {i : Nat} {l : List Int} {id : Int} (h : id ≠ 0) (j : Int) : uMid I i (l ++ [id]) j = if j = id then uMid I i l j ++ [(i : Int) + 1] else uMid I i l j := by
  unfold uMid
  by_cases e : j = id
  · subst e
    simp [h, List.count_append, List.replicate_succ']
  · have : ¬ (id = j) := fun q => e q.symm
    simp [e, List.count_append, this]
theorem wMid_in {I : Int → List Int} {i : Nat} {l : List Int} {id : Int} (h : id ≠ 0) (u : Int) : wMid I i (l ++ [id]) u = if u = (i : Int) + 1 then wMid I i l u + 1 else wMid I i l u := by
  unfold wMid
  by_cases e : u = (i : Int) + 1
  · subst e
    rw [if_neg (by omega), if_pos rfl, if_pos rfl, if_neg (by omega), if_pos rfl]
    simp [h]
  · rw [if_neg e, if_neg e, if_neg e]
theorem uMid_end {I : Int → List Int} {n : Nat} {id : Int} (h : id ≠ 0) : uMid I n [] id = users I n id := by simp [uMid, h]
theorem wMid_end {I : Int → List Int} {n : Nat} {u : Int} (h : 1 ≤ u) (h2 : u ≤ n) : wMid I n [] u = wt I [] u := by unfold wMid; rw [if_pos ⟨h, h2⟩]
theorem uMid_len (I : Int → List Int) (i : Nat) (l : List Int) (id : Int) : (uMid I i l id).length ≤ ((ids i).map fun u => (I u).length).sum + l.length := by
  have h1 : ∀ L : List Int, (L.flatMap fun u => List.replicate ((I u).count id) u).length ≤ (L.map fun u => (I u).length).sum := by
    intro L
    induction L with
    | nil => simp
    | cons a r ih =>
      rw [List.flatMap_cons, List.length_append, List.length_replicate, List.map_cons, List.sum_cons]
      have : (I a).count id ≤ (I a).length := List.count_le_length
      omega
  unfold uMid users
  split
  · simp
  · rw [List.length_append, List.length_replicate]
    have := h1 (ids i)
    have : l.count id ≤ l.length := List.count_le_length
    omega
end Kn
end Go.Proofs.Ytjkhpbngpceenaa
