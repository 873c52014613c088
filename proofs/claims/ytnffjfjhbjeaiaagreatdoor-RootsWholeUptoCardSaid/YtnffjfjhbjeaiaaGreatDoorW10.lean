/- Lemmas for the statements of this seat: contracts of functions and the plain laws. -/
import Derived.Deep.DeepCutAuto
import Derived.KernelRfl
import Derived.Laws.Externs
import Derived.Lib.AppendIntMem
import Derived.Lib.AppendStr
import Derived.Lib.Builder
import Derived.Lib.ItoaLen
import Derived.Lib.OthersKept
import Derived.Lib.Strings
import Derived.Lib.UnsafeStr
import Derived.Lib.Walk
import Derived.Test.YtnffjfjhbjeaiaaGreatDoorChecked
import Derived.Test.YtnffjfjhbjeaiaaGreatDoorZ09
set_option linter.unusedVariables false
/- The plain law of layer 21: the document's lowering on the way: bounds. -/
namespace Go.Proofs.YtnffjfjhbjeaiaaGreatDoor
namespace Rt
def fwdDN (n : NetD) (keep : List Int) (k : Nat) : RtD := fwdD (Nt.sorted n.nodes) n.nodes.length (gT n keep) k ⟨[], []⟩
def midDN (n : NetD) (keep : List Int) : RtD := addD 5 0 (dropD (Nt.loss n.nodes) (addD 4 0 (fwdDN n keep (Nt.sorted n.nodes).length)))
def bwdDN (n : NetD) (keep : List Int) (k : Nat) : RtD := bwdD (Nt.insF n.nodes) (Nt.sorted n.nodes) (n.nodes.length + 1) n.nodes.length (dT n keep) k (midDN n keep)
theorem loweredD_eq (n : NetD) (keep : List Int) : loweredD n keep = bwdDN n keep (Nt.sorted n.nodes).length := rfl
theorem fwdDN_rel {n : NetD} (keep : List Int) {k : Nat} (hk : k ≤ (Nt.sorted n.nodes).length) : Rel (n.nodes.length + 1) (fwdN n keep k) (fwdDN n keep k) :=
  (Rel.fwd (L := n.nodes.length + 1) (N := n.nodes.length) (f := fT n keep) (g := gT n keep) (by omega) order_in (Kn.go_ok (Nt.insF n.nodes) n.nodes.length n.nodes.length).nodup (start_rel n) rfl (by omega) (fun k hk z z1 z2 _ => by unfold fT gT; rw [last_pend]) k hk).1
theorem midDN_rel {n : NetD} (h : Nt.check n = 0) (keep : List Int) : Rel (n.nodes.length + 1) (midN n keep) (midDN n keep) := by
  obtain ⟨_, _, _, _, hl, _, hlo, _⟩ := Nt.check_ok h
  obtain ⟨_, l1, l2⟩ := Nt.loss_mem hlo
  exact ((((fwdDN_rel keep (Nat.le_refl _)).add 4 0).drop (id := Nt.loss n.nodes) l1 (by omega)).add 5 0)
theorem bwdDN_rel {n : NetD} (h : Nt.check n = 0) (keep : List Int) {k : Nat} (hk : k ≤ (Nt.sorted n.nodes).length) : Rel (n.nodes.length + 1) (bwdN n keep k) (bwdDN n keep k) := by
  refine (Rel.bwd (net_ok h) (M := n.nodes.length + 1) (N := n.nodes.length) (b := bT n keep) (g := dT n keep) (by omega) order_in (midDN_rel h keep) (fun p p1 p2 z z1 z2 hz => ?_) k hk).1
  unfold bT dT
  rw [first_pend _ _ _ p1 p2 (has_user h z1 z2 (fun e => by
    subst e
    rcases hz with hz | ⟨u, hu⟩
    · have := (List.mem_filter.1 hz).2; simp at this
    · exact loss_none h u hu))]
theorem fwdDN_bd {n : NetD} (h : Nt.check n = 0) (h12 : n.nodes.length ≤ 12) (keep : List Int) {k : Nat} (hk : k ≤ (Nt.sorted n.nodes).length) : (fwdDN n keep k).code.length ≤ 200 ∧ (fwdDN n keep k).there.length ≤ 13 := by
  have hr := fwdDN_rel keep hk
  have h1 := fwdN_len h keep k hk
  have h2 := hr.there_le
  rw [hr.code] at h1
  obtain ⟨_, _, _, _, hl, _⟩ := Nt.check_ok h
  rw [hl] at hk
  have h3 : k * (n.nodes.length + 3) ≤ 12 * 15 := Nat.mul_le_mul (by omega) (by omega)
  omega
theorem midDN_bd {n : NetD} (h : Nt.check n = 0) (h12 : n.nodes.length ≤ 12) (keep : List Int) : (midDN n keep).code.length ≤ 1000 ∧ (midDN n keep).there.length ≤ 13 := by
  have hr := midDN_rel h keep
  have h1 := midN_len h keep
  have h2 := hr.there_le
  rw [hr.code] at h1
  have h3 : n.nodes.length * (n.nodes.length + 3) ≤ 12 * 15 := Nat.mul_le_mul (by omega) (by omega)
  omega
theorem bwdDN_bd {n : NetD} (h : Nt.check n = 0) (h12 : n.nodes.length ≤ 12) (keep : List Int) {k : Nat} (hk : k ≤ (Nt.sorted n.nodes).length) : (bwdDN n keep k).code.length ≤ 1000 ∧ (bwdDN n keep k).there.length ≤ 13 := by
  have hr := bwdDN_rel h keep hk
  have h1 := bwdN_short h h12 keep k hk
  have h2 := hr.there_le
  rw [hr.code] at h1
  omega
theorem sweepD_bd {g : Int → Bool} : ∀ (m : Nat) (x : RtD), (sweepD g m x).code.length ≤ x.code.length + m ∧ (sweepD g m x).there.length ≤ x.there.length ∧ x.code.length ≤ (sweepD g m x).code.length
  | 0, _ => ⟨Nat.le_refl _, Nat.le_refl _, Nat.le_refl _⟩
  | m + 1, x => by
    obtain ⟨h1, h2, h3⟩ := sweepD_bd (g := g) m x
    unfold sweepD
    split
    · have h4 : (Rf.without (sweepD g m x).there ((m : Int) + 1)).length ≤ (sweepD g m x).there.length := List.length_filter_le _ _
      unfold dropD
      simp only [List.length_append, List.length_singleton]
      omega
    · omega
theorem sweepD_step (g : Int → Bool) (m : Nat) (x : RtD) : sweepD g (m + 1) x = if (sweepD g m x).there.contains ((m : Int) + 1) && g ((m : Int) + 1) then dropD ((m : Int) + 1) (sweepD g m x) else sweepD g m x := rfl
theorem fwdDN_step (n : NetD) (keep : List Int) (k : Nat) : fwdDN n keep (k + 1) = sweepD (gT n keep k) n.nodes.length (compD 1 ((Nt.sorted n.nodes).getD k 0) (fwdDN n keep k)) := rfl
theorem bwdDN_step (n : NetD) (keep : List Int) (k : Nat) : bwdDN n keep (k + 1) = sweepD (dT n keep ((Nt.sorted n.nodes).length - k)) n.nodes.length (addD 6 ((Nt.sorted n.nodes).getD ((Nt.sorted n.nodes).length - 1 - k) 0) ((Nt.insF n.nodes ((Nt.sorted n.nodes).getD ((Nt.sorted n.nodes).length - 1 - k) 0)).foldl (fun x i => fetchD (Nt.insF n.nodes) (n.nodes.length + 1) i x) (bwdDN n keep k))) := rfl
/-- On the way of a round back. -/
theorem bwdDN_fold {n : NetD} (h : Nt.check n = 0) (h12 : n.nodes.length ≤ 12) (keep : List Int) {k : Nat} (hk : k < (Nt.sorted n.nodes).length) (j : Nat) :
    (((Nt.insF n.nodes ((Nt.sorted n.nodes).getD ((Nt.sorted n.nodes).length - 1 - k) 0)).take j).foldl (fun x i => fetchD (Nt.insF n.nodes) (n.nodes.length + 1) i x) (bwdDN n keep k)).code.length ≤ 1000 ∧
    (((Nt.insF n.nodes ((Nt.sorted n.nodes).getD ((Nt.sorted n.nodes).length - 1 - k) 0)).take j).foldl (fun x i => fetchD (Nt.insF n.nodes) (n.nodes.length + 1) i x) (bwdDN n keep k)).there.length ≤ 13 := by
  have hkl : (Nt.sorted n.nodes).length - 1 - k < (Nt.sorted n.nodes).length := by omega
  have e := get_at hkl
  have hu := order_in _ (List.getElem_mem hkl)
  have hb := (bwdDN_bd h h12 keep (k := k + 1) hk).1
  rw [bwdDN_step] at hb
  rw [e] at hb ⊢
  generalize (Nt.sorted n.nodes)[(Nt.sorted n.nodes).length - 1 - k] = u at *
  have hf := Rel.fetches (net_ok h) (n.nodes.length + 1) ((Nt.insF n.nodes u).take j) (bwdDN_rel h keep (k := k) (by omega)) (fun i hi => (net_ok h).rng u hu.1 hu.2 i (List.mem_of_mem_take hi))
  have h2 := hf.there_le
  have h3 := (sweepD_bd (g := dT n keep ((Nt.sorted n.nodes).length - k)) n.nodes.length (addD 6 u ((Nt.insF n.nodes u).foldl (fun x i => fetchD (Nt.insF n.nodes) (n.nodes.length + 1) i x) (bwdDN n keep k)))).2.2
  have h4 : (addD 6 u ((Nt.insF n.nodes u).foldl (fun x i => fetchD (Nt.insF n.nodes) (n.nodes.length + 1) i x) (bwdDN n keep k))).code.length = ((Nt.insF n.nodes u).foldl (fun x i => fetchD (Nt.insF n.nodes) (n.nodes.length + 1) i x) (bwdDN n keep k)).code.length + 1 := by unfold addD; simp
  have h5 := (take_monoD (I := Nt.insF n.nodes) (m := n.nodes.length + 1) (Nt.insF n.nodes u) j (bwdDN n keep k)).1
  omega
end Rt
end Go.Proofs.YtnffjfjhbjeaiaaGreatDoor
/- Layer 21 (roots): Lower: contract. -/
namespace Go.Proofs.YtnffjfjhbjeaiaaGreatDoor
open Go.RowKit
/-- What is kept, as a row of bools. -/
def kbTo (N : Nat) (l : List Int) : List Bool := l.foldl (fun kb id => kb.set id.toNat true) (List.replicate (N + 1) false)
theorem kbTo_snoc (N : Nat) (l : List Int) (id : Int) : kbTo N (l ++ [id]) = (kbTo N l).set id.toNat true := by simp [kbTo]
theorem kbTo_len (N : Nat) (l : List Int) : (kbTo N l).length = N + 1 := by
  have key : ∀ (l : List Int) (kb : List Bool), (l.foldl (fun kb id => kb.set id.toNat true) kb).length = kb.length := by
    intro l
    induction l with
    | nil => intro kb; rfl
    | cons x r ih => intro kb; rw [List.foldl_cons, ih, List.length_set]
  unfold kbTo
  rw [key]; simp
theorem kbTo_at (N : Nat) {l : List Int} (hl : ∀ z ∈ l, 1 ≤ z ∧ z ≤ N) {id : Nat} (hid : id ≤ N) : Ck.at_ (kbTo N l) id = l.contains (id : Int) := by
  have key : ∀ (l : List Int) (kb : List Bool), (∀ z ∈ l, 1 ≤ z ∧ z ≤ N) → kb.length = N + 1 → (l.foldl (fun kb id => kb.set id.toNat true) kb).getD id false = (kb.getD id false || l.contains (id : Int)) := by
    intro l
    induction l with
    | nil => intro kb _ _; simp
    | cons x r ih =>
      intro kb h hk
      have hx := h x (by simp)
      rw [List.foldl_cons, ih _ (fun z hz => h z (by simp [hz])) (by rw [List.length_set]; exact hk)]
      rw [List.getD_eq_getElem?_getD, List.getD_eq_getElem?_getD, List.getElem?_set]
      by_cases e : x.toNat = id
      · have e2 : (id : Int) = x := by omega
        rw [if_pos e, if_pos (show x.toNat < kb.length by omega), e2]
        simp
      · have e2 : ¬ (id : Int) = x := by omega
        simp [e, e2]
  unfold Ck.at_ kbTo
  rw [Int.toNat_natCast, key l _ hl (by simp)]
  have h0 : (List.replicate (N + 1) false).getD id false = false := by
    rw [List.getD_eq_getElem?_getD, List.getElem?_replicate]
    split <;> rfl
  rw [h0]
  rfl
theorem RtKb.of {n : NetD} {keep : List Int} (h : ∀ z ∈ keep, 1 ≤ z ∧ z ≤ n.nodes.length) : RtKb n keep (kbTo n.nodes.length keep) := fun id hid => kbTo_at n.nodes.length h hid
theorem RtM.set_kept {a : RtA} {n : NetD} {kb : List Bool} {W0 W : World} {s : RtS} (hS : a.Still n W0) (h : RtM a n kb W0 s W) (i : Nat) (b : Bool) : RtM a n (kb.set i b) W0 s (W.setCell ⟨a.g2, i, none⟩ (.bool b)) := by
  have i1 := hS.hp; have i2 := hS.h1; have i3 := hS.h2; have i4 := hS.h3; have i5 := hS.n12; have i6 := hS.n23; have i7 := hS.b2; have i8 := h.hB
  obtain ⟨v, hb, ho⟩ := h.box
  have hk := h.kept.set_ i (.bool b)
  rw [bools_set] at hk
  have hs2 := Below.heap_setCell W ⟨a.g2, i, none⟩ (.bool b)
  exact ⟨h.later.set (p := ⟨a.g2, i, none⟩) (by simp; omega) _, ⟨v, hb.far (p := ⟨a.g2, i, none⟩) (by simp; omega) _, ownsRow_heap ho fun g hg => hs2 g (by have := (ho.lt g hg).1; show g ≠ a.g2; omega)⟩, h.first.far (p := ⟨a.g2, i, none⟩) (by simp; omega) _, hk, h.pres.far (p := ⟨a.g2, i, none⟩) (by simp; omega) _, by rw [List.length_set]; exact h.lk, h.lp, by simpa using h.hB⟩
theorem Rt.bwdN_zero {n : NetD} (h : Nt.check n = 0) (keep : List Int) {k : Nat} (hk : k ≤ n.nodes.length) : Ck.at_ (bwdN n keep k).pres 0 = true := (bwdDN_rel h keep (k := k) (by rw [Rt.order_len h]; exact hk)).zero
/-- Are all of some numbers a net's? -/
def nodesB (N : Nat) (keep : List Int) : Bool := keep.all fun z => decide (1 ≤ z) && decide (z ≤ (N : Int))
theorem nodesB_in {N : Nat} {keep : List Int} : nodesB N keep = true ↔ ∀ z ∈ keep, 1 ≤ z ∧ z ≤ N := by simp [nodesB]
theorem nodesB_not {N : Nat} {keep : List Int} {k : Nat} (hk : k < keep.length) (h : ¬ (1 ≤ keep[k] ∧ keep[k] ≤ N)) : nodesB N keep = false := by
  cases hb : nodesB N keep
  · rfl
  · exact absurd (nodesB_in.1 hb _ (List.getElem_mem hk)) h
def LowerP (n : NetD) (keep : List Int) (W : World) (e : Ending) (w' : World) : Prop :=
  Later W w' ∧ ((Nt.check n ≠ 0 ∧ e = .returned (.tuple #[.slice none 0 0, .int .i64 (Nt.check n)])) ∨ (Nt.check n = 0 ∧ nodesB n.nodes.length keep = false ∧ e = .returned (.tuple #[.slice none 0 0, .int .i64 11])) ∨
    (Nt.check n = 0 ∧ nodesB n.nodes.length keep = true ∧ ∃ C cc, e = .returned (.tuple #[.slice C (Rt.lowered n keep).code.length cc, .int .i64 0]) ∧ Pairs w' C (Rt.lowered n keep).code))
set_option maxHeartbeats 16000000 in
set_option maxRecDepth 100000 in
theorem roots_lower (A N K : Option Addr) (c d ck : Nat) (n : NetD) (keep : List Int) (W : World) (hok : n.ok) (hR : NetR W A N n) (hd : n.nodes.length ≤ d) (h12 : n.nodes.length ≤ 12) (hK : Ints .i64 W K keep) (hkl : keep.length ≤ 9223372036854775807) :
    Calls Tryz.prog 8 #[.agg #[.slice A n.inn.length c, .slice N n.nodes.length d], .slice K keep.length ck] W (LowerP n keep W) := by
  have hk0 := Blk.new W 26 #[.slice A n.inn.length c, .slice N n.nodes.length d]
  have hl0 : Later W (W.alloc (.cells #[.slice A n.inn.length c, .slice N n.nodes.length d] 26)) := (Later.refl W).alloc _
  have HR := Lib.hid hR
  have Hok := Lib.hid hok
  have Hk0 := Lib.hid hk0
  have Hl0 := Lib.hid hl0
  have HK := Lib.hid hK
  clear hR hok hk0 hl0 hK
  go_enter Tryz.func8, Tryz.ntmps8
  go_wp2_with fail
  generalize W.alloc (.cells #[.slice A n.inn.length c, .slice N n.nodes.length d] 26) = W1 at *
  refine (roots_begin A N c d n W1 Hok.out (HR.out.below Hl0.out (Nat.le_refl _)) hd h12).mono ?_
  rintro e W2 ⟨⟨hch, rfl⟩ | ⟨hch, a, W0, hS, hl10, rfl, hM⟩, hl12⟩
  · have hne : (Nt.check n != 0) = true := by simp [hch]
    have hl2 := Hl0.out.trans hl12
    have Hch := Lib.hid hch
    have Hl2 := Lib.hid hl2
    clear hch hl2
    clear hl12
    go_wp2_with fail
    go_ret2
    exact ⟨Hl2.out, .inl ⟨Hch.out, rfl⟩⟩
  have hk2 := hl12.blk Hk0.out
  have hWp : W.heap.size < a.p := by have h1 := Hk0.out.lt; have h2 := Below.size hl10; have h3 := hS.hp; omega
  have hl2 := Hl0.out.trans hl12
  have hlW0 := Hl0.out.trans hl10
  have hloss := (Nt.loss_mem (Nt.check_ok hch).2.2.2.2.2.2.1).2
  obtain ⟨lu, hlu⟩ := Int.eq_ofNat_of_zero_le (show 0 ≤ Nt.loss n.nodes by omega)
  rw [hlu] at hloss
  have hln := Rt.fwdN_len hch
  have hsh := fun k h => Rt.bwdN_short hch h12 keep k h
  have hmm := Rt.midN_len hch keep
  have hso := Rt.order_len hch
  have hz := fun k (h : k ≤ n.nodes.length) => Rt.bwdN_zero hch keep h
  have Hch := Lib.hid hch
  have Hk2 := Lib.hid hk2
  have Hl2 := Lib.hid hl2
  have HlW0 := Lib.hid hlW0
  have HS := Lib.hid hS
  have HM := Lib.hid hM
  have Hlu := Lib.hid hlu
  have Hln := Lib.hid hln
  have Hsh := Lib.hid hsh
  have Hmm := Lib.hid hmm
  have Hso := Lib.hid hso
  have Hz := Lib.hid hz
  clear hch hk2 hl2 hlW0 hS hM hlu hln hsh hmm hso hz
  clear hl10 hl12 Hk0
  go_wp2_with fail
  go_loopw [9, 20] (fun _ t wx => ∃ k : Nat, k ≤ keep.length ∧ t = .int .i64 (k : Int) ∧ (∀ z ∈ keep.take k, 1 ≤ z ∧ z ≤ n.nodes.length) ∧ RtM a n (kbTo n.nodes.length (keep.take k)) W0 (Rt.start (n.nodes.length + 1)) wx ∧ Later W wx ∧ Blk wx W.heap.size 26 #[.slice A n.inn.length c, .slice N n.nodes.length d]) (fun _ t _ => keep.length - (intOf t).toNat)
  case atStart => exact ⟨0, Nat.zero_le _, rfl, by simp, HM.out, Hl2.out, Hk2.out⟩
  case round =>
    obtain ⟨k, hk, rfl, hall, hMk, hlk, hkk⟩ := hrel
    clear HM
    by_cases hlt : k < keep.length
    · obtain ⟨b, off, hKe, -, hc⟩ := HK.out.below hlk (Nat.le_refl _) k hlt
      rw [getD_at hlt] at hc
      have x1 := hkk.cell 1
      simp at x1
      have hnot := @nodesB_not n.nodes.length keep k hlt
      have HT := Lib.hid (List.take_succ_eq_append_getElem hlt)
      obtain ⟨v, -, -, -, -, -, -, -, -, c6, -, -⟩ := hMk.cells9
      have k0 : (k : Int) < keep.length := by omega
      subst hKe
      generalize keep[k] = z at *
      by_cases hin : 1 ≤ z ∧ z ≤ n.nodes.length
      · obtain ⟨u, hu⟩ := Int.eq_ofNat_of_zero_le (show 0 ≤ z by omega)
        have hun : u ≤ n.nodes.length := by omega
        have x0 := hMk.kept_at hun
        have f0 : wr.frozen? ⟨a.g2, u, none⟩ = false := hMk.kept.frozen u
        have hs2 := hMk.set_kept HS.out u true
        have hks := hkk.far (p := ⟨a.g2, u, none⟩) (by have := HS.out.h2; show W.heap.size ≠ a.g2; omega) (.bool true)
        have hls := hlk.set (p := ⟨a.g2, u, none⟩) (by have := HS.out.h2; show W.heap.size ≤ a.g2; omega) (.bool true)
        have hkb : kbTo n.nodes.length (keep.take (k + 1)) = (kbTo n.nodes.length (keep.take k)).set u true := by rw [HT.out, kbTo_snoc, hu, Int.toNat_natCast]
        rw [← hkb] at hs2
        have hal2 : ∀ y ∈ keep.take (k + 1), 1 ≤ y ∧ y ≤ n.nodes.length := fun y hy => by
          rw [HT.out] at hy
          rcases List.mem_append.1 hy with h | h
          · exact hall y h
          · simp at h; subst h; exact hin
        have e1 : decide (z < 1) = false := by simp; omega
        have e2 : decide ((n.nodes.length : Int) < z) = false := by simp; omega
        have e3 : ¬ z < 1 := by omega
        have e4 : ¬ (n.nodes.length : Int) < z := by omega
        subst hu
        have q1 : (0 : Int) ≤ (u : Int) := by omega
        have q2 : (u : Int) < ((n.nodes.length + 1 : Nat) : Int) := by omega
        have Hs2 := Lib.hid hs2
        have Hks := Lib.hid hks
        have Hls := Lib.hid hls
        have Hal2 := Lib.hid hal2
        clear hs2 hks hls hal2
        clear hMk hlk hkk hall hnot HT hkb hin
        go_wp2_with fail
        go_roundw
        case rel => exact ⟨k + 1, by omega, by go_num, Hal2.out, Hs2.out, Hls.out, Hks.out⟩
        case measure => simp [intOf]; omega
      · have HN := Lib.hid (hnot hin)
        have Hlk := Lib.hid hlk
        clear hlk
        clear hMk hkk hall hnot HT
        by_cases h1 : z < 1
        · have e1 : decide (z < 1) = true := by simp [h1]
          clear hin
          go_wp2_with fail
          go_ret2
          exact ⟨Hlk.out, .inr (.inl ⟨Hch.out, HN.out, rfl⟩)⟩
        · have e1 : decide (z < 1) = false := by simp; omega
          have e2 : decide ((n.nodes.length : Int) < z) = true := by simp; omega
          have e4 : (n.nodes.length : Int) < z := by omega
          clear hin
          go_wp2_with fail
          go_ret2
          exact ⟨Hlk.out, .inr (.inl ⟨Hch.out, HN.out, rfl⟩)⟩
    · obtain rfl : k = keep.length := by omega
      rw [List.take_length] at hall hMk
      have hkb := RtKb.of hall
      have hnb := nodesB_in.2 hall
      have hM0 : RtM a n (kbTo n.nodes.length keep) W0 (Rt.fwdN n keep 0) wr := hMk
      generalize kbTo n.nodes.length keep = kb at *
      have Hkb := Lib.hid hkb
      have Hnb := Lib.hid hnb
      have HM0 := Lib.hid hM0
      have Hlk := Lib.hid hlk
      clear hkb hnb hM0 hlk
      clear hMk hkk hall
      go_wp2_with fail
      refine (roots_forward a n keep kb W0 wr HS.out Hkb.out HM0.out).mono ?_
      rintro e w3 ⟨rfl, hM3, -⟩
      have hmul : n.nodes.length * (n.nodes.length + 3) ≤ 12 * 15 := Nat.mul_le_mul (by omega) (by omega)
      have hl3 := Hln.out keep n.nodes.length (by rw [Hso.out]; exact Nat.le_refl _)
      have HA := Lib.hid (roots_add a n kb W0 _ w3 HS.out hM3 4 0 (by omega))
      clear hM3
      go_wp2_with fail
      refine HA.out.mono ?_
      rintro e w4 ⟨rfl, hM4, -⟩
      obtain ⟨v4, -, -, -, -, -, -, -, c5, -, -, -⟩ := hM4.cells9
      rw [Hlu.out] at c5
      have hl4 : (Rt.add 4 0 (Rt.fwdN n keep n.nodes.length)).code.length ≤ 200 := by unfold Rt.add; simp; omega
      have HA2 := Lib.hid (roots_drop a n kb W0 _ w4 HS.out hM4 lu (by omega) (by omega))
      clear HA hM4
      go_wp2_with fail
      refine HA2.out.mono ?_
      rintro e w5 ⟨rfl, hM5, -⟩
      have hl5 : (Rt.drop (lu : Int) (Rt.add 4 0 (Rt.fwdN n keep n.nodes.length))).code.length ≤ 201 := by unfold Rt.drop; simp; omega
      have HA3 := Lib.hid (roots_add a n kb W0 _ w5 HS.out hM5 5 0 (by omega))
      clear HA2 hM5 c5
      go_wp2_with fail
      refine HA3.out.mono ?_
      rintro e w6 ⟨rfl, hM6, -⟩
      have hmid : Rt.add 5 0 (Rt.drop (lu : Int) (Rt.add 4 0 (Rt.fwdN n keep n.nodes.length))) = Rt.bwdN n keep 0 := by
        show _ = Rt.midN n keep
        unfold Rt.midN
        rw [Hlu.out, Hso.out]
      rw [hmid] at hM6
      have HA4 := Lib.hid (roots_backward a n keep kb W0 w6 HS.out Hkb.out hM6 Hz.out)
      clear HA3 hM6 hmid hl4 hl5 hl3 hmul
      go_wp2_with fail
      refine HA4.out.mono ?_
      rintro e w7 ⟨rfl, hM7, -⟩
      have hl7 := Hsh.out n.nodes.length (by rw [Hso.out]; exact Nat.le_refl _)
      have HA5 := Lib.hid (roots_many a n kb W0 _ w7 hM7 (by omega))
      have HLo : Hid (Rt.lowered n keep = Rt.bwdN n keep n.nodes.length) := Lib.hid (by rw [Rt.lowered_eq, Hso.out])
      generalize Rt.bwdN n keep n.nodes.length = s at *
      have HM7 := Lib.hid hM7
      clear hM7
      clear HA4
      go_wp2_with fail
      refine HA5.out.mono ?_
      rintro e w8 ⟨rfl, rfl⟩
      obtain ⟨v, -, ho, -, -, -, -, -, -, -, -, c8⟩ := HM7.out.cells9
      obtain ⟨C, cc, rfl⟩ := own_form ho
      have hP : Pairs w7 C s.code := by
        obtain ⟨A', c', e', _, hp⟩ := Pairs.of_own ho
        injection e' with e'; subst e'; exact hp
      have hfin := HlW0.out.trans HM7.out.later
      have HP := Lib.hid hP
      have Hfin := Lib.hid hfin
      clear hP hfin
      clear ho HA5
      go_wp2_with fail
      go_ret2
      refine ⟨Hfin.out, .inr (.inr ⟨Hch.out, Hnb.out, ?_⟩)⟩
      rw [HLo.out]
      exact ⟨C, cc, rfl, HP.out⟩
end Go.Proofs.YtnffjfjhbjeaiaaGreatDoor
/- The plain law of layer 21: two answers, reckoned. -/
namespace Go.Proofs.YtnffjfjhbjeaiaaGreatDoor
namespace Rt
/-- The awake test's net. -/
def an : NetD := ⟨[2], [⟨⟨1, 0, 0, 0, 0, 0, 0, []⟩, [0], []⟩, ⟨⟨12, 0, 2, 1, 0, 0, 0, []⟩, [1], []⟩]⟩
theorem an_check : Nt.check an = 0 := by decide
theorem an_one : (lowered an [1]).code = [(1, 1), (1, 2), (4, 0), (3, 2), (5, 0), (6, 2), (3, 1), (6, 1)] := by decide
theorem an_none : (lowered an []).code = [(1, 1), (1, 2), (3, 1), (4, 0), (3, 2), (5, 0), (2, 1), (6, 2), (3, 1), (6, 1)] := by decide
end Rt
end Go.Proofs.YtnffjfjhbjeaiaaGreatDoor
/- Layer 17 (code): two instructions held against each other. -/
namespace Go.Proofs.YtnffjfjhbjeaiaaGreatDoor
open Go.RowKit
theorem ins_stood : Tryz.prog.stoodInHeld 44 = false := by kernel_rfl
theorem ins_guard : Tryz.prog.eqGuardType Tryz.prog.depth 44 = false := by kernel_rfl
theorem run_neq_ins (a b c d : Int) (w : World) : (binOp .neq 44 (.agg #[.int .i64 a, .int .i64 b]) (.agg #[.int .i64 c, .int .i64 d])).run Tryz.prog w = .ok (.bool (!(a == c && b == d))) w := by
  have g1 := ins_stood
  have g2 := ins_guard
  cases h1 : (a == c) <;> cases h2 : (b == d)
  all_goals simp [go_sem, g1, h1, h2]
theorem run_eql_ins (a b c d : Int) (w : World) : (binOp .eql 44 (.agg #[.int .i64 a, .int .i64 b]) (.agg #[.int .i64 c, .int .i64 d])).run Tryz.prog w = .ok (.bool (a == c && b == d)) w := by
  have g1 := ins_stood
  have g2 := ins_guard
  cases h1 : (a == c) <;> cases h2 : (b == d)
  all_goals simp [go_sem, g1, h1, h2]
end Go.Proofs.YtnffjfjhbjeaiaaGreatDoor
/- Layer 17 (code): equality, names: contracts. -/
namespace Go.Proofs.YtnffjfjhbjeaiaaGreatDoor
open Go.RowKit

theorem take_eq_succ {α : Type} (ps qs : List α) (k : Nat) (h1 : k < ps.length) (h2 : k < qs.length) : ps.take k = qs.take k → ps[k] = qs[k] → ps.take (k + 1) = qs.take (k + 1) := by
  intro h h'
  rw [List.take_succ_eq_append_getElem h1, List.take_succ_eq_append_getElem h2, h, h']


/-- The bytes of a kind's name. -/
def nameOf (kind : Int) : List UInt8 :=
  if kind = 1 then [115, 97, 118, 101] else if kind = 2 then [97, 103, 97, 105, 110] else if kind = 3 then [102, 114, 101, 101]
  else if kind = 4 then [101, 109, 105, 116] else if kind = 5 then [115, 101, 101, 100] else if kind = 6 then [98, 97, 99, 107] else []
theorem nameOf_out {kind : Int} (h : kind < 1 ∨ 7 ≤ kind) : nameOf kind = [] := by
  unfold nameOf
  rw [if_neg (by omega), if_neg (by omega), if_neg (by omega), if_neg (by omega), if_neg (by omega), if_neg (by omega)]

theorem code_name (kind : Int) (w : World) :
    Calls Tryz.prog 54 #[.int .i64 kind] w fun e w' => e = .returned (.string ⟨(nameOf kind).toArray⟩) ∧ Below w.heap.size w w' := by
  by_cases h0 : kind < 0
  · have hfin := Lib.hid (nameOf_out (.inl (show kind < 1 by omega)))
    go_enter Tryz.func54, Tryz.ntmps54
    go_wp2_with fail
    go_ret
    exact ⟨by rw [hfin.out]; rfl, (Below.refl _ _).alloc (Nat.le_refl _) _⟩
  · by_cases h7 : 7 ≤ kind
    · have hfin := Lib.hid (nameOf_out (.inr h7))
      go_enter Tryz.func54, Tryz.ntmps54
      go_wp2_with fail
      go_ret
      exact ⟨by rw [hfin.out]; rfl, (Below.refl _ _).alloc (Nat.le_refl _) _⟩
    · rcases (show kind = 0 ∨ kind = 1 ∨ kind = 2 ∨ kind = 3 ∨ kind = 4 ∨ kind = 5 ∨ kind = 6 by omega) with rfl | rfl | rfl | rfl | rfl | rfl | rfl
      all_goals
        go_enter Tryz.func54, Tryz.ntmps54
        go_wp2_with fail
        go_ret
        exact ⟨rfl, (Below.refl _ _).alloc (Nat.le_refl _) _⟩
end Go.Proofs.YtnffjfjhbjeaiaaGreatDoor
/- A builder of the library's, in a block of the call's own: what its writing methods do. -/
namespace Go.Proofs.YtnffjfjhbjeaiaaGreatDoor
open Go.RowKit

abbrev IsB (B b : Nat) (bs : List Value) (w : World) : Prop := Lib.IsBuilder 109 5 B b bs w
abbrev Kept (b : Nat) (w w' : World) : Prop := Lib.OthersKept 5 (some b) w w'

theorem builder_size : (Tryz.prog.info? 109).map (·.size) = some 2 := by kernel_rfl
theorem builder_lies : liesAt Tryz.prog Tryz.prog.depth 109 (2 / Tryz.prog.cellsOf 109) 0 109 1 = true := by kernel_rfl

set_option maxHeartbeats 1000000 in
set_option maxRecDepth 100000 in
theorem copyCheck_used (b : Nat) (w : World) (h0 : w.cell? ⟨b, 0, none⟩ = some (.pointer (some ⟨b, 0, none⟩))) :
    Calls Tryz.prog 81 #[.pointer (some ⟨b, 0, none⟩)] w fun e w' => e = .returned (.tuple #[]) ∧ w = w' := by
  obtain ⟨j, hj, _⟩ := Option.map_eq_some_iff.1 builder_size
  go_enter Tryz.func81, Tryz.ntmps81
  go_wp2
  rw [Lib.run_neq_ptr_same w _ Tryz.underlying106 hj]
  go_wp2
  go_end0
  exact ⟨rfl, rfl⟩

set_option maxHeartbeats 1000000 in
set_option maxRecDepth 100000 in
theorem copyCheck_fresh (b : Nat) (w : World) (h0 : w.cell? ⟨b, 0, none⟩ = some (.pointer none)) (hsh : w.shape? b = some (109, 2)) (hfz : w.frozen? ⟨b, 0, none⟩ = false) :
    Calls Tryz.prog 81 #[.pointer (some ⟨b, 0, none⟩)] w fun e w' => e = .returned (.tuple #[]) ∧ w.setCell ⟨b, 0, none⟩ (.pointer (some ⟨b, 0, none⟩)) = w' := by
  obtain ⟨j, hj, hjs⟩ := Option.map_eq_some_iff.1 builder_size
  go_enter Tryz.func81, Tryz.ntmps81
  go_wp2
  rw [Lib.run_to_unsafe w ⟨b, 0, none⟩ Tryz.underlying106 Tryz.underlying161 hj (by rw [hjs]; decide) hsh (Nat.zero_lt_succ 1)]
  simp only [Result.andThen]
  rw [Oper.upon_value]
  go_wp2
  rw [run_callFunc_extern Tryz.func109 (by kernel_rfl) (by kernel_rfl) (by kernel_rfl) (e := Extern.AbiNoEscape.same) (by kernel_rfl)]
  rw [Lib.run_noEscape]
  simp only [Result.andThen]
  rw [Oper.upon_value]
  go_wp2
  rw [Lib.run_from_unsafe w ⟨b, 0, none⟩ Tryz.underlying161 Tryz.underlying106 hj hsh builder_lies]
  simp only [Result.andThen]
  rw [Oper.upon_value]
  go_wp2
  go_end0
  exact ⟨rfl, rfl⟩

def CheckPost (B b : Nat) (bs : List Value) (w : World) (e : Ending) (w' : World) : Prop :=
  e = .returned (.tuple #[]) ∧ Lib.BuilderAt 109 5 B b (.pointer (some ⟨b, 0, none⟩)) bs w' ∧ Below B w w' ∧ Kept b w w'

theorem copyCheck_any (B b : Nat) (bs : List Value) (w : World) (h : IsB B b bs w) :
    Calls Tryz.prog 81 #[.pointer (some ⟨b, 0, none⟩)] w (CheckPost B b bs w) := by
  rcases h with h | h
  · refine (copyCheck_fresh b w h.cell0 h.shape h.frozen0).mono ?_
    rintro e w' ⟨rfl, rfl⟩
    exact ⟨rfl, h.used _, (Below.refl B w).setCell (p := ⟨b, 0, none⟩) h.1 _, (Lib.OthersKept.refl _ _ _).setCell ⟨b, 0, none⟩ rfl _⟩
  · refine (copyCheck_used b w h.cell0).mono ?_
    rintro e w' ⟨rfl, rfl⟩
    exact ⟨rfl, h, Below.refl B _, Lib.OthersKept.refl _ _ _⟩

theorem ownsRow_kind {w : World} {B : Nat} {e : TypeId} {v : Value} {n : Nat} {xs : List Value} (h : w.ownsRow B e 1 v n xs) : ∀ g, v.ownBlock = some g → ∃ c fz, w.heap[g]? = some (.cells c e fz) := by
  intro g hg
  rcases h.2 with ⟨rfl, _⟩ | ⟨g', cap, cur, rfl, _, hgg, _⟩
  · simp [Value.ownBlock] at hg
  · simp [Value.ownBlock] at hg
    subst hg
    exact ⟨cur, _, hgg⟩

def WritePost (v : Value) (B b : Nat) (bs : List Value) (w : World) (e : Ending) (w' : World) : Prop :=
  e = .returned v ∧ IsB B b bs w' ∧ Below B w w' ∧ Kept b w w'

set_option maxHeartbeats 2000000 in
set_option maxRecDepth 100000 in
theorem builder_writeByte (B b : Nat) (bs : List Value) (c : Int) (w : World) (h : IsB B b bs w) (hlen : bs.length + 1 ≤ 140737488355328) (hBw : B ≤ w.heap.size) :
    Calls Tryz.prog 56 #[.pointer (some ⟨b, 0, none⟩), .int .u8 c] w (WritePost .nilIface B b (bs ++ [.int .u8 c]) w) := by
  obtain ⟨i0, hi, hz0, hz1, hz2⟩ := info_parts byte_info
  go_enter Tryz.func56, Tryz.ntmps56
  go_wp2_with fail
  refine (copyCheck_any B b bs _ h).mono ?_
  rintro e w1 ⟨rfl, h1, hb1, hk1⟩
  obtain ⟨hB, v, hbk, hown, hne⟩ := h1
  have c0 : w1.cell? ⟨b, 0, none⟩ = some (.pointer (some ⟨b, 0, none⟩)) := by rw [Lib.cell_of_heap hbk]; rfl
  have c1 : w1.cell? ⟨b, 1, none⟩ = some v := by rw [Lib.cell_of_heap hbk]; rfl
  go_wp2_with (at_builtin; refine wpList_append_own _ rfl _ _ 107 rfl B 5 i0 (.int .u8 0) 1 1 Tryz.underlying107 hi hz0 hz1 hz2 rfl (by decide) _ _ _ rfl (hown.alloc _) ⟨w1.heap.size, 0, none⟩ 1 1 [.int .u8 c] rfl rfl ?c1 ?c2 ?c3 ?c4 ?c5 ?_)
  case c1 => exact one_new _ _ _
  case c2 => intro u hu; simp at hu; subst hu; rfl
  case c3 => unfold maxLen; omega
  case c4 => omega
  case c5 => have := hb1.size; simp; omega
  intro v' w2 hown' hgrow _
  have hlt : b < w1.heap.size := lt_of_block hbk
  have hb2 : w2.heap[b]? = some (.cells #[.pointer (some ⟨b, 0, none⟩), v] 109 (0, 0)) := by
    rw [hgrow.block b (by simp; omega) (fun e => hne e.symm), Lib.alloc_old w1 _ b hlt]
    exact hbk
  have d0 : w2.cell? ⟨b, 0, none⟩ = some (.pointer (some ⟨b, 0, none⟩)) := by rw [Lib.cell_of_heap hb2]; rfl
  have d1 : w2.cell? ⟨b, 1, none⟩ = some v := by rw [Lib.cell_of_heap hb2]; rfl
  have f1 : w2.frozen? ⟨b, 1, none⟩ = false := Lib.frozen_of_heap hb2 1
  obtain ⟨g, cap, rfl⟩ : ∃ g cap, v' = .slice (some ⟨g, 0, none⟩) (bs.length + 1) cap := by
    rcases hown'.2 with ⟨_, h0⟩ | ⟨g, cap, cur, hv, _⟩
    · omega
    · exact ⟨g, cap, hv⟩
  go_wp2_with fail
  go_ret
  refine ⟨rfl, Or.inr ?_, ?_, ((hk1.alloc _).grown hgrow (ownsRow_kind (hown.alloc _))).setCell ⟨b, 1, none⟩ rfl _⟩
  · exact Lib.BuilderAt.put hB hb2 (bs' := bs ++ [.int .u8 c]) (by simpa using hown') (by decide)
  · exact ((hb1.alloc (by have := hb1.size; omega) _).grown hgrow (by have := hb1.size; simp; omega) (fun k hk => (hown.lt k hk).1)).setCell (p := ⟨b, 1, none⟩) hB _

set_option maxHeartbeats 2000000 in
set_option maxRecDepth 100000 in
theorem builder_writeString (B b : Nat) (bs : List Value) (s : ByteArray) (w : World) (h : IsB B b bs w) (hlen : bs.length + s.size ≤ 140737488355328) (hBw : B ≤ w.heap.size) :
    Calls Tryz.prog 55 #[.pointer (some ⟨b, 0, none⟩), .string s] w (WritePost (.tuple #[.int .i64 s.size, .nilIface]) B b (bs ++ Lib.strCells s) w) := by
  obtain ⟨i0, hi, hz0, hz1, hz2⟩ := info_parts byte_info
  go_enter Tryz.func55, Tryz.ntmps55
  go_wp2_with fail
  refine (copyCheck_any B b bs _ h).mono ?_
  rintro e w1 ⟨rfl, h1, hb1, hk1⟩
  obtain ⟨hB, v, hbk, hown, hne⟩ := h1
  have c0 : w1.cell? ⟨b, 0, none⟩ = some (.pointer (some ⟨b, 0, none⟩)) := by rw [Lib.cell_of_heap hbk]; rfl
  have c1 : w1.cell? ⟨b, 1, none⟩ = some v := by rw [Lib.cell_of_heap hbk]; rfl
  go_wp2_with (at_builtin; refine Lib.wpList_append_own_string _ rfl _ _ 107 9 rfl B 5 i0 Tryz.underlying107 Tryz.underlying9 hi hz0 hz1 hz2 _ _ _ rfl hown s rfl ?c3 ?c4 ?c5 ?_)
  case c3 => unfold maxLen; omega
  case c4 => omega
  case c5 => have := hb1.size; omega
  intro v' w2 hown' hgrow _
  have hlt : b < w1.heap.size := lt_of_block hbk
  have hb2 : w2.heap[b]? = some (.cells #[.pointer (some ⟨b, 0, none⟩), v] 109 (0, 0)) := by
    rw [hgrow.block b hlt (fun e => hne e.symm)]
    exact hbk
  have d0 : w2.cell? ⟨b, 0, none⟩ = some (.pointer (some ⟨b, 0, none⟩)) := by rw [Lib.cell_of_heap hb2]; rfl
  have d1 : w2.cell? ⟨b, 1, none⟩ = some v := by rw [Lib.cell_of_heap hb2]; rfl
  have f1 : w2.frozen? ⟨b, 1, none⟩ = false := Lib.frozen_of_heap hb2 1
  obtain ⟨ao, n', cap, rfl⟩ : ∃ ao n' cap, v' = .slice ao n' cap := by
    rcases hown'.2 with ⟨hv, _⟩ | ⟨g, cap, cur, hv, _⟩
    · exact ⟨_, _, _, hv⟩
    · exact ⟨_, _, _, hv⟩
  go_wp2_with fail
  go_ret2
  refine ⟨rfl, Or.inr ?_, ?_, (hk1.grown hgrow (ownsRow_kind hown)).setCell ⟨b, 1, none⟩ rfl _⟩
  · exact Lib.BuilderAt.put hB hb2 (bs' := bs ++ Lib.strCells s) (by simpa [Lib.strCells_length] using hown') (by decide)
  · exact (hb1.grown hgrow (by have := hb1.size; omega) (fun k hk => (hown.lt k hk).1)).setCell (p := ⟨b, 1, none⟩) hB _
end Go.Proofs.YtnffjfjhbjeaiaaGreatDoor
/- Layer 17 (code): the text of a code: contract. -/
namespace Go.Proofs.YtnffjfjhbjeaiaaGreatDoor
open Go.RowKit

theorem Below.grownNone {B : Nat} {w w' : World} (h : Below B w w') (hB : w.heap.size ≤ B) : w.grownBy w' none := ⟨h.os, h.tape, h.output, h.size, fun k hk _ => h.block k (by omega)⟩
theorem builderAt_below {T e : TypeId} {B b : Nat} {p : Value} {bs : List Value} {w w' : World} {B2 : Nat} (h : Lib.BuilderAt T e B b p bs w) (hb : Below B2 w w') (hB : w.heap.size ≤ B2) : Lib.BuilderAt T e B b p bs w' := by
  obtain ⟨h1, v, h2, h3, h4⟩ := h
  exact ⟨h1, v, (hb.block b (Nat.lt_of_lt_of_le (lt_of_block h2) hB)).trans h2, h3.kept (Below.grownNone hb hB) (by cases h : v.ownBlock <;> simp), h4⟩
theorem isB_below {B b : Nat} {bs : List Value} {w w' : World} {B2 : Nat} (h : IsB B b bs w) (hb : Below B2 w w') (hB : w.heap.size ≤ B2) : IsB B b bs w' := by
  rcases h with h | h
  · exact Or.inl (builderAt_below h hb hB)
  · exact Or.inr (builderAt_below h hb hB)
theorem isB_lt {B b : Nat} {bs : List Value} {w : World} (h : IsB B b bs w) : b < w.heap.size := by
  rcases h with h | h <;> exact h.lt
theorem Blk.kept {b g : Nat} {t : TypeId} {cs : Array Value} {w w' : World} (h : Blk w g t cs) (hk : Kept b w w') (hne : g ≠ b) (ht : t ≠ 5) : Blk w' g t cs :=
  hk g _ h (by simp [hne]) (by intro c fz e; injection e with _ e; exact ht e)

/-- An instruction's line. -/
def tailOf (id : Int) : List UInt8 := if id = 0 then [] else [32] ++ Lib.itoa id
def lineOf (p : Int × Int) : List UInt8 := if nameOf p.1 = [] then [] else nameOf p.1 ++ tailOf p.2 ++ [10]
def textOf (ps : List (Int × Int)) : List UInt8 := ps.flatMap lineOf
theorem textOf_take_succ (ps : List (Int × Int)) (k : Nat) (h : k < ps.length) : textOf (ps.take (k + 1)) = textOf (ps.take k) ++ lineOf ps[k] := by
  unfold textOf
  rw [List.take_succ_eq_append_getElem h, List.flatMap_append]; simp
theorem lineOf_none {p : Int × Int} (h : nameOf p.1 = []) : lineOf p = [] := by simp [lineOf, h]
theorem lineOf_some {p : Int × Int} (h : nameOf p.1 ≠ []) : lineOf p = nameOf p.1 ++ tailOf p.2 ++ [10] := by simp [lineOf, h]
theorem nameOf_le (k : Int) : (nameOf k).length ≤ 5 := by
  unfold nameOf
  repeat' split
  all_goals simp
theorem tailOf_le {id : Int} (h0 : -9223372036854775808 ≤ id) (h1 : id ≤ 9223372036854775807) : (tailOf id).length ≤ 22 := by
  unfold tailOf
  split
  · simp
  · have := Lib.itoa_length_le id h0 h1
    simp; omega
theorem lineOf_le {p : Int × Int} (h0 : -9223372036854775808 ≤ p.2) (h1 : p.2 ≤ 9223372036854775807) : (lineOf p).length ≤ 28 := by
  have a := nameOf_le p.1
  have b := tailOf_le h0 h1
  unfold lineOf
  split
  · simp
  · simp; omega
theorem textOf_le (ps : List (Int × Int)) (h : ∀ p ∈ ps, -9223372036854775808 ≤ p.2 ∧ p.2 ≤ 9223372036854775807) : (textOf ps).length ≤ 28 * ps.length := by
  induction ps with
  | nil => simp [textOf]
  | cons p r ih =>
    have h1 := lineOf_le (h p (by simp)).1 (h p (by simp)).2
    have h2 := ih (fun q hq => h q (by simp [hq]))
    simp [textOf] at h2 ⊢
    omega

def ItoaPost (id : Int) (w : World) (e : Ending) (w' : World) : Prop := e = .returned (.string ⟨(Lib.itoa id).toArray⟩) ∧ Below w.heap.size w w'
def ItoaFits (ps : List (Int × Int)) (w : World) : Prop :=
  ∀ p ∈ ps, ∀ w', Below w.heap.size w w' → Calls Tryz.prog 57 #[.int .i64 p.2] w' (ItoaPost p.2 w')

def textTo (ps : List (Int × Int)) (k : Nat) : List Value := Lib.byteCells (textOf (ps.take k))

set_option maxHeartbeats 1600000 in
theorem code_text (A : Option Addr) (c : Nat) (ps : List (Int × Int)) (w : World) (hl : ps.length ≤ 1000000) (hI : Pairs w A ps) (hbd : ∀ p ∈ ps, -9223372036854775808 ≤ p.2 ∧ p.2 ≤ 9223372036854775807) (hit : ItoaFits ps w) :
    Calls Tryz.prog 25 #[.slice A ps.length c] w fun e w' => e = .returned (.string ⟨(textOf ps).toArray⟩) ∧ Below w.heap.size w w' := by
  have HI := Lib.hid hI
  have HB := Lib.hid hbd
  have HT := Lib.hid hit
  clear hI hbd hit
  go_enter Tryz.func25, Tryz.ntmps25
  go_wp2_with fail
  go_loopw [5, 6, 9] (fun _ _ i wr => ∃ k : Nat, k ≤ ps.length ∧ i = .int .i64 k ∧ IsB w.heap.size w.heap.size (textTo ps k) wr ∧ Below w.heap.size w wr) (fun _ _ i _ => ps.length - (intOf i).toNat)
  case atStart => exact ⟨0, Nat.zero_le _, rfl, Lib.fresh_isBuilder _ _ w, (Below.refl _ _).alloc (Nat.le_refl _) _⟩
  case round =>
    obtain ⟨k, hk, rfl, hB, hbel⟩ := hrel
    by_cases hlt : k < ps.length
    · obtain ⟨b, off, rfl, hb, hc, hd⟩ := HI.out.below hbel (Nat.le_refl _) k hlt
      have hmem : ps[k] ∈ ps := List.getElem_mem hlt
      have hbd := HB.out _ hmem
      have hti := Lib.hid (HT.out _ hmem)
      have HS := Lib.hid (textOf_take_succ ps k hlt)
      have hlen : (textOf (ps.take k)).length ≤ 28 * k := by
        have := textOf_le (ps.take k) (fun p hp => HB.out p (List.mem_of_mem_take hp))
        rw [List.length_take] at this
        omega
      have hsz := isB_lt hB
      generalize hp : ps[k] = p at hc hd hbd hti HS hmem
      obtain ⟨kd, id⟩ := p
      dsimp only at hc hd hbd hti
      obtain ⟨hbd1, hbd2⟩ := hbd
      clear hp hmem
      have hB1 : IsB w.heap.size w.heap.size (textTo ps k) (wr.alloc (.cells #[.int .i64 kd, .int .i64 id] 44)) := isB_below hB ((Below.refl _ _).alloc (Nat.le_refl _) _) (Nat.le_refl _)
      have hblk := Blk.new wr 44 #[.int .i64 kd, .int .i64 id]
      have hbel1 := hbel.alloc hbel.size (Obj.cells #[Value.int IntKind.i64 kd, Value.int IntKind.i64 id] 44)
      clear hB
      go_wp2_with fail
      refine (code_name kd _).mono ?_
      rintro e w1 ⟨rfl, h1⟩
      have hsz1 := h1.size
      rw [World.size_alloc] at hsz1
      replace hB1 := isB_below hB1 h1 (Nat.le_refl _)
      replace hblk := hblk.below h1 (by simp)
      replace hbel1 := hbel1.trans (h1.mono (by simp; omega))
      clear h1
      by_cases hnm : nameOf kd = []
      · have HF := Lib.hid (lineOf_none (p := (kd, id)) hnm)
        rw [hnm]
        go_wp2_with fail
        go_roundw
        case rel => exact ⟨k + 1, by omega, by go_num, by unfold textTo; rw [HS.out, HF.out, List.append_nil]; exact hB1, hbel1⟩
        case measure => simp [intOf]; omega
      · have HF := Lib.hid (lineOf_some (p := (kd, id)) hnm)
        have hnl := nameOf_le kd
        have hne : (nameOf kd).isEmpty = false := by simp [hnm]
        have hns : (⟨(nameOf kd).toArray⟩ : ByteArray).size = (nameOf kd).length := by simp [ByteArray.size]
        generalize nameOf kd = nm at HF hnl hne hns
        have HNS := Lib.hid hns
        clear hnm hns
        have hBl : (textTo ps k).length ≤ 28 * k := by unfold textTo; rw [Lib.byteCells_length]; exact hlen
        clear hlen
        go_wp2_with fail
        refine (builder_writeString _ _ _ _ _ hB1 (by rw [HNS.out]; omega) (by omega)).mono ?_
        rintro e w2 ⟨rfl, hB2, hb2, hk2⟩
        have hsz2 := hb2.size
        replace hblk := hblk.kept hk2 (by omega) (by decide)
        replace hbel1 := hbel1.trans hb2
        clear hb2 hk2 hB1
        rw [Lib.strCells_toArray] at hB2
        have hB2l : (textTo ps k ++ Lib.byteCells nm).length ≤ 28 * k + 5 := by rw [List.length_append, Lib.byteCells_length]; omega
        have hc2 := hblk.cell 1
        simp at hc2
        by_cases hid : id = 0
        · subst hid
          have HTL := Lib.hid (show tailOf 0 = [] from rfl)
          go_wp2_with fail
          refine (builder_writeByte _ _ _ 10 _ hB2 (by omega) (by omega)).mono ?_
          rintro e w3 ⟨rfl, hB3, hb3, hk3⟩
          replace hbel1 := hbel1.trans hb3
          clear hb3 hk3 hB2
          go_wp2_with fail
          go_roundw
          case rel => exact ⟨k + 1, by omega, by go_num, by unfold textTo; rw [HS.out, HF.out, HTL.out, List.append_nil, Lib.byteCells_append, Lib.byteCells_append, ← List.append_assoc]; exact hB3, hbel1⟩
          case measure => simp [intOf]; omega
        · have hidb : (id != 0) = true := by simp [hid]
          have HTL := Lib.hid (show tailOf id = [32] ++ Lib.itoa id by simp [tailOf, hid])
          have hil := Lib.itoa_length_le id hbd1 hbd2
          clear hid
          go_wp2_with fail
          refine (builder_writeByte _ _ _ 32 _ hB2 (by omega) (by omega)).mono ?_
          rintro e w3 ⟨rfl, hB3, hb3, hk3⟩
          have hsz3 := hb3.size
          replace hblk := hblk.kept hk3 (by omega) (by decide)
          replace hbel1 := hbel1.trans hb3
          clear hb3 hk3 hB2
          have hc3 := hblk.cell 1
          simp at hc3
          have hB3l : (textTo ps k ++ Lib.byteCells nm ++ [Value.int .u8 32]).length ≤ 28 * k + 6 := by rw [List.length_append]; simp only [List.length_cons, List.length_nil]; omega
          clear hc2 hB2l
          go_wp2_with fail
          refine (hti.out _ hbel1).mono ?_
          rintro e w4 ⟨rfl, h4⟩
          have hsz4 := h4.size
          replace hB3 := isB_below hB3 h4 (Nat.le_refl _)
          replace hblk := hblk.below h4 hblk.lt
          replace hbel1 := hbel1.trans (h4.mono hbel1.size)
          clear h4 hc3
          have his : (⟨(Lib.itoa id).toArray⟩ : ByteArray).size = (Lib.itoa id).length := by simp [ByteArray.size]
          have HIS := Lib.hid his
          clear his
          generalize Lib.itoa id = it at HTL hil HIS
          go_wp2_with fail
          refine (builder_writeString _ _ _ _ _ hB3 (by rw [HIS.out]; omega) (by omega)).mono ?_
          rintro e w5 ⟨rfl, hB5, hb5, hk5⟩
          have hsz5 := hb5.size
          rw [Lib.strCells_toArray] at hB5
          replace hbel1 := hbel1.trans hb5
          have hB5l : (textTo ps k ++ Lib.byteCells nm ++ [Value.int .u8 32] ++ Lib.byteCells it).length ≤ 28 * k + 27 := by rw [List.length_append, Lib.byteCells_length]; omega
          clear hb5 hk5 hB3 hB3l
          go_wp2_with fail
          refine (builder_writeByte _ _ _ 10 _ hB5 (by omega) (by omega)).mono ?_
          rintro e w6 ⟨rfl, hB6, hb6, hk6⟩
          replace hbel1 := hbel1.trans hb6
          clear hb6 hk6 hB5
          go_wp2_with fail
          go_roundw
          case rel => exact ⟨k + 1, by omega, by go_num, by unfold textTo at hB6 ⊢; rw [HS.out, HF.out, HTL.out]; simp only [Lib.byteCells_append, List.append_assoc] at hB6 ⊢; exact hB6, hbel1⟩
          case measure => simp [intOf]; omega
    · obtain rfl : k = ps.length := by omega
      unfold textTo at hB
      rw [List.take_length] at hB
      generalize hte : textOf ps = t at hB
      have HTE := Lib.hid hte
      clear hte
      have HB2 := Lib.hid hB
      clear hB
      go_wp2_with fail
      refine (Tryz.Builder_String_any _ _ t _ HB2.out hbel.size).mono ?_
      rintro e w1 ⟨rfl, h1⟩
      go_wp2_with fail
      go_ret
      exact ⟨by rw [HTE.out]; rfl, hbel.trans h1⟩
end Go.Proofs.YtnffjfjhbjeaiaaGreatDoor
/- Layer 21's statements: the fixed answer. -/
namespace Go.Proofs.YtnffjfjhbjeaiaaGreatDoor
open Go.RowKit
theorem an_ok : Rt.an.ok := by
  refine ⟨by decide, by decide, fun v hv => ?_⟩
  simp [Rt.an] at hv
  rcases hv with rfl | rfl <;> exact ⟨by intro z hz; simp at hz; try omega, by decide, by decide, by decide, by simp, by intro z hz; simp at hz; try omega⟩
def anNodes (p1 p2 : Nat) : Array Value := #[.int .i64 1, .int .i64 0, .int .i64 0, .int .i64 0, .int .i64 0, .int .i64 0, .int .i64 0, .slice none 0 0, .slice (some ⟨p1, 0, none⟩) 1 1, .slice none 0 0, .int .i64 12, .int .i64 0, .int .i64 2, .int .i64 1, .int .i64 0, .int .i64 0, .int .i64 0, .slice none 0 0, .slice (some ⟨p2, 0, none⟩) 1 1, .slice none 0 0]
theorem an_net {W : World} {p0 p1 p2 g : Nat} (h0 : Blk W p0 3 #[.int .i64 2]) (h1 : Blk W p1 3 #[.int .i64 0]) (h2 : Blk W p2 3 #[.int .i64 1])
    (hg : Blk W g 67 (anNodes p1 p2)) :
    NetR W (some ⟨p0, 0, none⟩) (some ⟨g, 0, none⟩) Rt.an := by
  have one : ∀ {p : Nat} {x : Int}, Blk W p 3 #[.int .i64 x] → Ints .i64 W (some ⟨p, 0, none⟩) [x] := fun {p x} h => Ints.of_row fun j hj => by
    obtain rfl : j = 0 := by simpa using hj
    rw [h.cell]; rfl
  refine ⟨one h0, fun j hj => ?_⟩
  have : j = 0 ∨ j = 1 := by simp [Rt.an] at hj; omega
  rcases this with rfl | rfl
  · exact ⟨g, 0, none, 0, some ⟨p1, 0, none⟩, 1, none, 0, rfl, hg.lt, hg.cell 0, hg.cell 1, hg.cell 2, hg.cell 3, hg.cell 4, hg.cell 5, hg.cell 6, hg.cell 7, hg.cell 8, hg.cell 9, ⟨Ints.nil, by simp [Rt.an], by omega⟩, ⟨one h1, by simp [Rt.an], by omega⟩, Shps.nil, by simp [Rt.an], by omega⟩
  · exact ⟨g, 0, none, 0, some ⟨p2, 0, none⟩, 1, none, 0, rfl, hg.lt, hg.cell 10, hg.cell 11, hg.cell 12, hg.cell 13, hg.cell 14, hg.cell 15, hg.cell 16, hg.cell 17, hg.cell 18, hg.cell 19, ⟨Ints.nil, by simp [Rt.an], by omega⟩, ⟨one h2, by simp [Rt.an], by omega⟩, Shps.nil, by simp [Rt.an], by omega⟩
theorem itoa_few {ps : List (Int × Int)} (h : ∀ p ∈ ps, p.2 = 0 ∨ p.2 = 1 ∨ p.2 = 2) (w : World) : ItoaFits ps w := fun p hp w' _ => by
  have key : ∀ (i : Nat), i < 100 → Lib.decDigits i = Lib.itoa (i : Int) → Calls Tryz.prog 57 #[.int .i64 (i : Int)] w' (ItoaPost (i : Int) w') := fun i hi he =>
    (Tryz.strconv_Itoa_small i hi w').mono fun e w2 ⟨h1, h2⟩ => by subst h2; exact ⟨by rw [h1, he], Below.refl _ _⟩
  rcases h p hp with e | e | e <;> rw [e]
  · exact key 0 (by decide) (by simp [Lib.itoa, Lib.decDigits])
  · exact key 1 (by decide) (by simp [Lib.itoa, Lib.decDigits])
  · exact key 2 (by decide) (by simp [Lib.itoa, Lib.decDigits])
theorem an_text1 : textOf [(1, 1), (1, 2), (4, 0), (3, 2), (5, 0), (6, 2), (3, 1), (6, 1)] = [115, 97, 118, 101, 32, 49, 10, 115, 97, 118, 101, 32, 50, 10, 101, 109, 105, 116, 10, 102, 114, 101, 101, 32, 50, 10, 115, 101, 101, 100, 10, 98, 97, 99, 107, 32, 50, 10, 102, 114, 101, 101, 32, 49, 10, 98, 97, 99, 107, 32, 49, 10] := by
  simp [textOf, lineOf, nameOf, tailOf, Lib.itoa, Lib.decDigits]
theorem an_text2 : textOf [(1, 1), (1, 2), (3, 1), (4, 0), (3, 2), (5, 0), (2, 1), (6, 2), (3, 1), (6, 1)] = [115, 97, 118, 101, 32, 49, 10, 115, 97, 118, 101, 32, 50, 10, 102, 114, 101, 101, 32, 49, 10, 101, 109, 105, 116, 10, 102, 114, 101, 101, 32, 50, 10, 115, 101, 101, 100, 10, 97, 103, 97, 105, 110, 32, 49, 10, 98, 97, 99, 107, 32, 50, 10, 102, 114, 101, 101, 32, 49, 10, 98, 97, 99, 107, 32, 49, 10] := by
  simp [textOf, lineOf, nameOf, tailOf, Lib.itoa, Lib.decDigits]
abbrev anW (w : World) : World := ((((w.alloc (.cells #[.int .i64 2] 3)).alloc (.cells #[.int .i64 0] 3)).alloc (.cells #[.int .i64 1] 3)).alloc (.cells #[.int .i64 1, .int .i64 0, .int .i64 0, .int .i64 0, .int .i64 0, .int .i64 0, .int .i64 0, .slice none 0 0, .slice (some ⟨w.heap.size + 1, 0, none⟩) 1 1, .slice none 0 0, .int .i64 12, .int .i64 0, .int .i64 2, .int .i64 1, .int .i64 0, .int .i64 0, .int .i64 0, .slice none 0 0, .slice (some ⟨w.heap.size + 1 + 1, 0, none⟩) 1 1, .slice none 0 0] 67)).alloc (.cells #[.slice (some ⟨w.heap.size, 0, none⟩) 1 1, .slice (some ⟨w.heap.size + 1 + 1 + 1, 0, none⟩) 2 2] 26)
theorem anW_facts (w : World) : NetR (anW w) (some ⟨w.heap.size, 0, none⟩) (some ⟨w.heap.size + 1 + 1 + 1, 0, none⟩) Rt.an ∧ Blk (anW w) (w.heap.size + 1 + 1 + 1 + 1) 26 #[.slice (some ⟨w.heap.size, 0, none⟩) 1 1, .slice (some ⟨w.heap.size + 1 + 1 + 1, 0, none⟩) 2 2] ∧ Later w (anW w) := by
  have b0 := ((((Blk.new w 3 #[.int .i64 2]).alloc (.cells #[.int .i64 0] 3)).alloc (.cells #[.int .i64 1] 3)).alloc (.cells (anNodes (w.heap.size + 1) (w.heap.size + 1 + 1)) 67)).alloc (.cells #[.slice (some ⟨w.heap.size, 0, none⟩) 1 1, .slice (some ⟨w.heap.size + 1 + 1 + 1, 0, none⟩) 2 2] 26)
  have b1 := (((Blk.new (w.alloc (.cells #[.int .i64 2] 3)) 3 #[.int .i64 0]).alloc (.cells #[.int .i64 1] 3)).alloc (.cells (anNodes (w.heap.size + 1) (w.heap.size + 1 + 1)) 67)).alloc (.cells #[.slice (some ⟨w.heap.size, 0, none⟩) 1 1, .slice (some ⟨w.heap.size + 1 + 1 + 1, 0, none⟩) 2 2] 26)
  have b2 := ((Blk.new ((w.alloc (.cells #[.int .i64 2] 3)).alloc (.cells #[.int .i64 0] 3)) 3 #[.int .i64 1]).alloc (.cells (anNodes (w.heap.size + 1) (w.heap.size + 1 + 1)) 67)).alloc (.cells #[.slice (some ⟨w.heap.size, 0, none⟩) 1 1, .slice (some ⟨w.heap.size + 1 + 1 + 1, 0, none⟩) 2 2] 26)
  have b3 := (Blk.new (((w.alloc (.cells #[.int .i64 2] 3)).alloc (.cells #[.int .i64 0] 3)).alloc (.cells #[.int .i64 1] 3)) 67 (anNodes (w.heap.size + 1) (w.heap.size + 1 + 1))).alloc (.cells #[.slice (some ⟨w.heap.size, 0, none⟩) 1 1, .slice (some ⟨w.heap.size + 1 + 1 + 1, 0, none⟩) 2 2] 26)
  have b4 := Blk.new ((((w.alloc (.cells #[.int .i64 2] 3)).alloc (.cells #[.int .i64 0] 3)).alloc (.cells #[.int .i64 1] 3)).alloc (.cells (anNodes (w.heap.size + 1) (w.heap.size + 1 + 1)) 67)) 26 #[.slice (some ⟨w.heap.size, 0, none⟩) 1 1, .slice (some ⟨w.heap.size + 1 + 1 + 1, 0, none⟩) 2 2]
  simp only [World.size_alloc] at b1 b2 b3 b4
  exact ⟨an_net b0 b1 b2 b3, b4, ((((((Later.refl w).alloc _).alloc _).alloc _).alloc _).alloc _)⟩
theorem an_row {W : World} {p : Nat} {x : Int} (h : Blk W p 3 #[.int .i64 x]) : Ints .i64 W (some ⟨p, 0, none⟩) [x] := Ints.of_row fun j hj => by
  obtain rfl : j = 0 := by simpa using hj
  rw [h.cell]; rfl
set_option maxHeartbeats 8000000 in
set_option maxRecDepth 100000 in
theorem awake21 (w : World) : Calls Tryz.prog 7 #[] w fun e w' => e = .returned (.bool true) ∧ Below w.heap.size w w' := by
  obtain ⟨hR, hk, hl⟩ := anW_facts w
  have hgo : ∀ (W : World) (K : Option Addr) (m q : Nat) (keep : List Int), NetR W (some ⟨w.heap.size, 0, none⟩) (some ⟨w.heap.size + 1 + 1 + 1, 0, none⟩) Rt.an → Ints .i64 W K keep → keep.length = m → m ≤ 1 → Calls Tryz.prog 8 #[.agg #[.slice (some ⟨w.heap.size, 0, none⟩) 1 1, .slice (some ⟨w.heap.size + 1 + 1 + 1, 0, none⟩) 2 2], .slice K m q] W (LowerP Rt.an keep W) := fun W K m q keep h1 h2 h3 h4 => by
    subst h3
    exact roots_lower (some ⟨w.heap.size, 0, none⟩) (some ⟨w.heap.size + 1 + 1 + 1, 0, none⟩) K 1 2 q Rt.an keep W an_ok h1 (by decide) (by decide) h2 (by omega)
  have HR := Lib.hid hR
  have Hk := Lib.hid hk
  have Hl := Lib.hid hl
  have Hgo := Lib.hid hgo
  clear hR hk hl hgo
  go_enter Tryz.func7, Tryz.ntmps7
  go_upto_region 2 with fail
  change Code.wp _ _ _ _ (anW w)
  have x0 := Hk.out.cell 0
  have x1 := Hk.out.cell 1
  simp only [List.getElem?_toArray, List.getElem?_cons_succ, List.getElem?_cons_zero] at x0 x1
  generalize anW w = w1 at *
  generalize hq : w.heap.size = q at *
  have HQ := Lib.hid hq
  clear hq
  go_wp2_with fail
  have hl1 : Later w1 (w1.alloc (.cells #[.int .i64 1] 3)) := (Later.refl w1).alloc _
  refine (Hgo.out _ _ 1 1 [1] (HR.out.below hl1 (Nat.le_refl _)) (an_row (Blk.new w1 3 #[.int .i64 1])) rfl (by decide)).mono ?_
  rintro e w2 ⟨h12, ⟨h0, -⟩ | ⟨-, h0, -⟩ | ⟨-, -, C, cc, rfl, hP⟩⟩
  · exact absurd Rt.an_check h0
  · exact absurd h0 (by decide)
  rw [Rt.an_one] at hP ⊢
  have hl12 := hl1.trans h12
  have hk2 := hl12.blk Hk.out
  have hR2 := HR.out.below hl12 (Nat.le_refl _)
  have hl2 := Hl.out.trans hl12
  clear x0 x1
  have x0 := hk2.cell 0
  have x1 := hk2.cell 1
  simp only [List.getElem?_toArray, List.getElem?_cons_succ, List.getElem?_cons_zero] at x0 x1
  have Hk2 := Lib.hid hk2
  have HR2 := Lib.hid hR2
  have Hl2 := Lib.hid hl2
  have HP := Lib.hid hP
  clear hk2 hR2 hl2 hP
  clear Hk HR Hl hl1 h12 hl12
  go_wp2_with fail
  refine (Hgo.out _ none 0 0 [] HR2.out Ints.nil rfl (by decide)).mono ?_
  rintro e w3 ⟨h23, ⟨h0, -⟩ | ⟨-, h0, -⟩ | ⟨-, -, D, dc, rfl, hP2⟩⟩
  · exact absurd Rt.an_check h0
  · exact absurd h0 (by decide)
  rw [Rt.an_none] at hP2 ⊢
  have hk3 := h23.blk Hk2.out
  have hR3 := HR2.out.below h23 (Nat.le_refl _)
  have hl3 := Hl2.out.trans h23
  have hP3 := HP.out.below h23 (Nat.le_refl _)
  clear x0 x1
  have x0 := hk3.cell 0
  have x1 := hk3.cell 1
  simp only [List.getElem?_toArray, List.getElem?_cons_succ, List.getElem?_cons_zero] at x0 x1
  have Hk3 := Lib.hid hk3
  have HR3 := Lib.hid hR3
  have Hl3 := Lib.hid hl3
  have HP3 := Lib.hid hP3
  have HP2 := Lib.hid hP2
  clear hk3 hR3 hl3 hP3 hP2
  clear Hk2 HR2 Hl2 HP h23
  go_wp2_with fail
  have hl4 : Later w3 (w3.alloc (.cells #[.int .i64 3] 3)) := (Later.refl w3).alloc _
  refine (Hgo.out _ _ 1 1 [3] (HR3.out.below hl4 (Nat.le_refl _)) (an_row (Blk.new w3 3 #[.int .i64 3])) rfl (by decide)).mono ?_
  rintro e w4 ⟨h34, ⟨h0, -⟩ | ⟨-, -, rfl⟩ | ⟨-, h0, -⟩⟩
  · exact absurd Rt.an_check h0
  rotate_left
  · exact absurd h0 (by decide)
  have hl34 := hl4.trans h34
  have hl4 := Hl3.out.trans hl34
  have hPA := HP3.out.below hl34 (Nat.le_refl _)
  have hPB := HP2.out.below hl34 (Nat.le_refl _)
  have Hl4 := Lib.hid hl4
  have HPA := Lib.hid hPA
  have HPB := Lib.hid hPB
  clear hl4 hPA hPB
  clear Hk3 HR3 Hl3 HP3 HP2 h34 hl34 x0 x1
  go_wp2_with fail
  refine (code_text C cc [(1, 1), (1, 2), (4, 0), (3, 2), (5, 0), (6, 2), (3, 1), (6, 1)] w4 (by decide) HPA.out (by decide) (itoa_few (by decide) w4)).mono ?_
  rintro e w5 ⟨rfl, hb5⟩
  rw [an_text1]
  have hl5 := Hl4.out.call hb5
  have hPB5 := HPB.out.below (show Later w4 w5 from hb5) (Nat.le_refl _)
  have Hl5 := Lib.hid hl5
  have HPB5 := Lib.hid hPB5
  clear hl5 hPB5
  clear hb5 Hl4 HPA HPB
  go_wp2_with fail
  refine (code_text D dc [(1, 1), (1, 2), (3, 1), (4, 0), (3, 2), (5, 0), (2, 1), (6, 2), (3, 1), (6, 1)] w5 (by decide) HPB5.out (by decide) (itoa_few (by decide) w5)).mono ?_
  rintro e w6 ⟨rfl, hb6⟩
  rw [an_text2]
  have hl6 := Hl5.out.call hb6
  have Hl6 := Lib.hid hl6
  clear hl6
  clear hb6 Hl5
  go_wp2_with fail
  go_ret
  exact ⟨rfl, by first | exact Hl6.out | (rw [← HQ.out]; exact Hl6.out)⟩
end Go.Proofs.YtnffjfjhbjeaiaaGreatDoor
/- The statements of layer 21: is a case small? Are all of some numbers a net's? -/
namespace Go.Proofs.YtnffjfjhbjeaiaaGreatDoor
open Go.RowKit
def SmallR (n : NetD) (m : Nat) (w : World) (e : Ending) (w' : World) : Prop := ∃ b, e = .returned (.bool b) ∧ (b = true → n.nodes.length ≤ 12 ∧ m ≤ 300) ∧ Below w.heap.size w w'
set_option maxRecDepth 20000 in
set_option maxHeartbeats 8000000 in
theorem small_21 (A N Q : Option Addr) (c d q m : Nat) (n : NetD) (w : World) (hok : n.ok) (hR : NetR w A N n) (hml : m ≤ 1048576) :
    Calls Tryz.prog 6 #[.agg #[.slice A n.inn.length c, .slice N n.nodes.length d], .slice Q m q] w (SmallR n m w) := by
  have hnl := hok.2.1
  have hil := hok.1
  have hb0 : Below w.heap.size w (w.alloc (.cells #[.slice A n.inn.length c, .slice N n.nodes.length d] 26)) := (Below.refl _ _).alloc (Nat.le_refl _) _
  by_cases h12 : 12 < n.nodes.length
  · have e1 : decide ((12 : Int) < (n.nodes.length : Int)) = true := by simp; omega
    have e2 : (12 : Int) < (n.nodes.length : Int) := by omega
    have Hok := Lib.hid hok
    have HR := Lib.hid hR
    clear hok hR
    go_enter Tryz.func6, Tryz.ntmps6
    go_wp2_with fail
    go_ret
    exact ⟨_, rfl, by simp, hb0⟩
  have e1 : decide ((12 : Int) < (n.nodes.length : Int)) = false := by simp; omega
  have e2 : ¬ (12 : Int) < (n.nodes.length : Int) := by omega
  have Hok := Lib.hid hok
  have HR := Lib.hid hR
  clear hok hR
  go_enter Tryz.func6, Tryz.ntmps6
  go_wp2_with fail
  generalize w.alloc (.cells #[.slice A n.inn.length c, .slice N n.nodes.length d] 26) = w1 at *
  clear e1 e2
  go_loopw [5, 23] (fun t i wx => ∃ (k : Nat) (z : Int), k ≤ n.nodes.length ∧ i = .int .i64 (k : Int) ∧ t = .int .i64 z ∧ (m : Int) ≤ z ∧ z ≤ 2097152 + (k : Int) * 1099520000000 ∧ Below w.heap.size w wx) (fun _ i _ => n.nodes.length - (intOf i).toNat)
  case atStart => exact ⟨0, _, Nat.zero_le _, rfl, rfl, by omega, by omega, hb0⟩
  case round =>
    obtain ⟨k, z, hk, rfl, rfl, hz1, hz2, hbw⟩ := hrel
    clear hb0
    have hkb : (k : Int) * 1099520000000 ≤ 12 * 1099520000000 := Int.mul_le_mul_of_nonneg_right (by omega) (by omega)
    by_cases hlt : k < n.nodes.length
    · obtain ⟨b, off, S, sc, J, ic, Q, qc, rfl, hNA, -, -, -⟩ := HR.out.2.at_ hlt
      have hnok := Hok.out.2.2 _ (List.getElem_mem hlt)
      have hsl := hnok.2.1
      have hll := hnok.2.2.1
      have hpl := hnok.2.2.2.1
      have hps := hnok.2.2.2.2.1
      have hQi := hNA.2.2.2
      generalize n.nodes[k] = v at *
      obtain ⟨⟨y0, y1, y2, y3, y4, y5, y6, y7, y8, y9⟩, -⟩ := hNA.below hbw
      have hbn := hbw.alloc hbw.size (.cells #[.int .i64 v.op.kind, .int .i64 v.op.k, .int .i64 v.op.width, .int .i64 v.op.step, .int .i64 v.op.side, .int .i64 v.op.frm, .int .i64 v.op.to, .slice S v.op.s.length sc, .slice J v.ins.length ic, .slice Q v.p.length qc] 67)
      have hz9 : z ≤ 13194240000000 + 2097152 := by omega
      have HZ2 := Lib.hid hz2
      clear hz2 hkb
      have HNA := Lib.hid hNA
      have Hnok := Lib.hid hnok
      have HQi := Lib.hid hQi
      have Hps := Lib.hid hps
      clear hNA hnok hQi hps
      go_wp2_with fail
      clear y0 y1 y2 y3 y4 y5 y6 y7 y8 y9
      generalize wr.alloc (.cells #[.int .i64 v.op.kind, .int .i64 v.op.k, .int .i64 v.op.width, .int .i64 v.op.step, .int .i64 v.op.side, .int .i64 v.op.frm, .int .i64 v.op.to, .slice S v.op.s.length sc, .slice J v.ins.length ic, .slice Q v.p.length qc] 67) = w2 at *
      go_loop [5, 41] (fun t i => ∃ (mm : Nat) (z2 : Int), mm ≤ v.p.length ∧ i = .int .i64 (mm : Int) ∧ t = .int .i64 z2 ∧ z + 3 ≤ z2 ∧ z2 ≤ z + 3 + 2097152 + (mm : Int) * 1048577) (fun _ i => v.p.length - (intOf i).toNat)
      case atStart => exact ⟨0, _, Nat.zero_le _, rfl, rfl, by omega, by omega⟩
      case round =>
        obtain ⟨mm, z2, hm, rfl, rfl, hz3, hz4⟩ := hrel
        have hmb : (mm : Int) * 1048577 ≤ 1048576 * 1048577 := Int.mul_le_mul_of_nonneg_right (by omega) (by omega)
        by_cases hlm : mm < v.p.length
        · obtain ⟨b5, o5, Ss, cs, rfl, -, hcs, -⟩ := HQi.out mm hlm
          have hcs2 := cell_below hbn hcs
          have hsl2 := Hps.out _ (List.getElem_mem hlm)
          generalize v.p[mm] = s at *
          have hz5 : z2 + (1 + (s.length : Int)) ≤ z + 3 + 2097152 + ((mm : Int) + 1) * 1048577 := by rw [Int.add_mul]; omega
          have hz6 : z2 ≤ 15000000000000 := by omega
          clear hcs hz4 hmb
          have Hz5 := Lib.hid hz5
          clear hz5
          go_wp2_with fail
          go_round
          case rel => exact ⟨mm + 1, _, by omega, by go_num, rfl, by omega, Hz5.out⟩
          case measure => simp [intOf]; omega
        · obtain rfl : mm = v.p.length := by omega
          have hz7 : z2 ≤ 2097152 + (((k + 1 : Nat) : Int)) * 1099520000000 := by have := HZ2.out; rw [Int.natCast_succ, Int.add_mul]; omega
          have hz8 : (m : Int) ≤ z2 := by omega
          clear hmb hz4
          have Hz7 := Lib.hid hz7
          clear hz7
          go_wp2_with fail
          go_roundw
          case rel => exact ⟨k + 1, _, by omega, by go_num, rfl, hz8, Hz7.out, hbn⟩
          case measure => simp [intOf]; omega
    · obtain rfl : k = n.nodes.length := by omega
      clear hz2 hkb
      go_wp2_with fail
      go_ret
      refine ⟨_, rfl, fun h => ?_, hbw⟩
      have h : z ≤ 300 := by simpa using h
      omega
set_option maxRecDepth 20000 in
set_option maxHeartbeats 8000000 in
theorem nodes_21 (A N K : Option Addr) (c d ck : Nat) (n : NetD) (keep : List Int) (w : World) (hK : Ints .i64 w K keep) (hkl : keep.length ≤ 9223372036854775807) :
    Calls Tryz.prog 11 #[.agg #[.slice A n.inn.length c, .slice N n.nodes.length d], .slice K keep.length ck] w fun e w' => e = .returned (.bool (nodesB n.nodes.length keep)) ∧ Below w.heap.size w w' := by
  have hk1 := Blk.new w 26 #[.slice A n.inn.length c, .slice N n.nodes.length d]
  have hl1 : Later w (w.alloc (.cells #[.slice A n.inn.length c, .slice N n.nodes.length d] 26)) := (Later.refl w).alloc _
  have hK1 := hK.below hl1 (Nat.le_refl _)
  have x1 := hk1.cell 1
  simp at x1
  clear hk1
  have x1 := (Blk.new w 26 #[.slice A n.inn.length c, .slice N n.nodes.length d]).cell 1
  simp only [List.getElem?_toArray, List.getElem?_cons_succ, List.getElem?_cons_zero] at x1
  have HK1 := Lib.hid hK1
  have Hl1 := Lib.hid hl1
  clear hK1 hl1
  clear hK
  go_enter Tryz.func11, Tryz.ntmps11
  go_wp2_with fail
  generalize w.alloc (.cells #[.slice A n.inn.length c, .slice N n.nodes.length d] 26) = w1 at *
  go_loop [6, 9] (fun _ t => ∃ k : Nat, k ≤ keep.length ∧ t = .int .i64 (k : Int) ∧ ∀ z ∈ keep.take k, 1 ≤ z ∧ z ≤ n.nodes.length) (fun _ t => keep.length - (intOf t).toNat)
  case atStart => exact ⟨0, Nat.zero_le _, rfl, by simp⟩
  case round =>
    obtain ⟨k, hk, rfl, hall⟩ := hrel
    by_cases hlt : k < keep.length
    · obtain ⟨b, off, hKe, -, hc⟩ := HK1.out k hlt
      rw [getD_at hlt] at hc
      have hnot := @nodesB_not n.nodes.length keep k hlt
      have HT := Lib.hid (List.take_succ_eq_append_getElem hlt)
      have k0 : (k : Int) < keep.length := by omega
      subst hKe
      generalize keep[k] = z at *
      by_cases hin : 1 ≤ z ∧ z ≤ n.nodes.length
      · have hal2 : ∀ y ∈ keep.take (k + 1), 1 ≤ y ∧ y ≤ n.nodes.length := fun y hy => by
          rw [HT.out] at hy
          rcases List.mem_append.1 hy with h | h
          · exact hall y h
          · simp at h; subst h; exact hin
        have e3 : ¬ z < 1 := by omega
        have e4 : ¬ (n.nodes.length : Int) < z := by omega
        have Hal2 := Lib.hid hal2
        clear hal2
        clear hall hnot HT hin
        go_wp2_with fail
        go_round
        case rel => exact ⟨k + 1, by omega, by go_num, Hal2.out⟩
        case measure => simp [intOf]; omega
      · have HN := Lib.hid (hnot hin)
        clear hall hnot HT
        by_cases h1 : z < 1
        · clear hin
          go_wp2_with fail
          go_ret
          exact ⟨by rw [HN.out]; rfl, Hl1.out⟩
        · have e4 : (n.nodes.length : Int) < z := by omega
          clear hin
          go_wp2_with fail
          go_ret
          exact ⟨by rw [HN.out]; rfl, Hl1.out⟩
    · obtain rfl : k = keep.length := by omega
      rw [List.take_length] at hall
      have HN := Lib.hid (nodesB_in.2 hall)
      clear hall
      go_wp2_with fail
      go_ret
      exact ⟨by rw [HN.out]; rfl, Hl1.out⟩
end Go.Proofs.YtnffjfjhbjeaiaaGreatDoor
/- Layer 18 (check): Do: contract. -/
namespace Go.Proofs.YtnffjfjhbjeaiaaGreatDoor
open Go.RowKit
/-- What holds behind Do. -/
def DoP (a : CkA) (c : CkN) (W0 : World) (s : CkS) (k id : Int) (W : World) (e : Ending) (w' : World) : Prop :=
  e = .returned (.int .i64 (Ck.do_ c s k id).2) ∧ CkF a c W0 (Ck.do_ c s k id).1 W w'
theorem CkM.g3_lt {a : CkA} {c : CkN} {W0 W : World} {s : CkS} (h : CkM a c W0 s W) : a.g3 < W.heap.size := h.grad.lt
theorem CkF.base {a : CkA} {c : CkN} {W0 W W1 W' : World} {s : CkS} (h : CkF a c W0 s W1 W') (hl : Later W W1) : CkF a c W0 s W W' :=
  ⟨h.mem, (Fr.refl _ W).then_below hl (Nat.le_refl _) |>.trans' h.fr fun _ _ h => h⟩
theorem ck_box {q : Nat} {W W' : World} {a : CkA} {c : CkN} {W0 : World} {s : CkS} {k id : Value} (hq : Blk W q 44 #[k, id]) (h : CkF a c W0 s W W') (hg : a.g3 < q) : W'.cell? ⟨q, 0, none⟩ = some k ∧ W'.cell? ⟨q, 1, none⟩ = some id := by
  have := h.fr.blk hq (by omega)
  exact ⟨this.cell 0, this.cell 1⟩
theorem Ck.sets_take (g : List Bool) (l : List Int) (k : Nat) (h : k < l.length) : Ck.sets g (l.take (k + 1)) = Ck.setB (Ck.sets g (l.take k)) l[k] true := by
  unfold Ck.sets
  rw [List.take_succ_eq_append_getElem h, List.foldl_append]; rfl
theorem CkF.trans {a : CkA} {c : CkN} {W0 W W1 W2 : World} {s s' : CkS} (h : CkF a c W0 s W W1) (k : CkF a c W0 s' W1 W2) : CkF a c W0 s' W W2 := ⟨k.mem, h.fr.trans k.fr⟩
theorem Ck.more_bd {a : CkA} {c : CkN} {W0 : World} (hS : a.Still c W0) (s : CkS) (k : Int) {n : Nat} (hn : n < c.words.length) : 0 ≤ Ck.more c s k n ∧ Ck.more c s k n ≤ 68719476736 := by
  have hw : ∀ z : Int, 0 ≤ Ck.wd c z ∧ Ck.wd c z ≤ 65536 := fun z => by
    have := Ck.sum_bd c hS.ok.word [z]
    simp [Ck.sumW] at this; exact this
  unfold Ck.more
  split
  · have := hw n; omega
  · split
    · have := hw c.loss; omega
    · split
      · have h1 := Ck.sum_bd c hS.ok.word (Ck.fresh c s n)
        have h2 := (Ck.fresh_in hS s hn).1
        omega
      · omega
set_option maxHeartbeats 16000000 in
set_option maxRecDepth 100000 in
theorem check_do (a : CkA) (c : CkN) (W0 : World) (s : CkS) (W : World) (hS : a.Still c W0) (hM : CkM a c W0 s W) (k id : Int) (hdn : s.done ≤ 1048576) (hnow : -1152921504606846976 ≤ s.now ∧ s.now ≤ 1152921504606846976) (hpk : -1152921504606846976 ≤ s.peak ∧ s.peak ≤ 1152921504606846976) :
    Calls Tryz.prog 44 #[.pointer (some ⟨a.p, 0, none⟩), .agg #[.int .i64 k, .int .i64 id]] W (DoP a c W0 s k id W) := by
  have hla : Later W (W.alloc (.cells #[.int .i64 k, .int .i64 id] 44)) := (Later.refl W).alloc _
  have hM1 := hM.to_later hla
  have hq := Blk.new W 44 #[.int .i64 k, .int .i64 id]
  have hg3 := hM.g3_lt
  have h513 := hS.ok.m2
  obtain ⟨y0, -⟩ := hM1.cells14
  have z0 : (W.alloc (.cells #[.int .i64 k, .int .i64 id] 44)).cell? ⟨W.heap.size, 0, none⟩ = some (.int .i64 k) := hq.cell 0
  have z1 : (W.alloc (.cells #[.int .i64 k, .int .i64 id] 44)).cell? ⟨W.heap.size, 1, none⟩ = some (.int .i64 id) := hq.cell 1
  have hrg := fun V => code_right k id V
  have HS := Lib.hid hS
  have HM1 := Lib.hid hM1
  have Hq := Lib.hid hq
  have Hla := Lib.hid hla
  clear hS hM1 hq hla
  clear hM
  cases hr : Cd.right (k, id) with
  | false =>
    rw [hr] at hrg
    have HD := Lib.hid (show Ck.do_ c s k id = (s, 10) by unfold Ck.do_; rw [if_pos (.inl hr)])
    have Hrg := Lib.hid hrg
    clear hrg
    clear hr
    go_enter Tryz.func44, Tryz.ntmps44
    go_wp2_with fail
    generalize W.alloc (.cells #[.int .i64 k, .int .i64 id] 44) = W1 at *
    have hld : Later W1 W1.drew := (Later.refl _).drew
    have k0 := hld.cell y0
    have k1 := hld.cell z0
    have k2 := hld.cell z1
    first
      | (go_region_with (first
          | (go_at_call 71; refine (Hrg.out _).mono ?_; rintro e wr ⟨rfl, hbr⟩; have hlr : Later W1.drew wr := hbr)
          | fail))
      | fail
    all_goals
      have hl1 := Hla.out.trans (hld.trans hlr)
      have hMr := HM1.out.to_later (hld.trans hlr)
      have Hl1 := Lib.hid hl1
      have HMr := Lib.hid hMr
      clear hl1 hMr
      clear k0 k1 k2 y0 z0 z1 hlr hld
      go_wp2_with fail
      go_ret
      exact ⟨by rw [HD.out]; rfl, by rw [HD.out]; exact ⟨HMr.out, (Fr.refl _ W).then_below Hl1.out (Nat.le_refl _)⟩⟩
  | true =>
    obtain ⟨-, -, hi0, -⟩ := Cd.right_bd hr
    obtain ⟨n, rfl⟩ := Int.eq_ofNat_of_zero_le (show 0 ≤ id from hi0)
    rw [hr] at hrg
    by_cases hid : n < c.words.length
    rotate_left
    · skip
      have HD := Lib.hid (show Ck.do_ c s k n = (s, 10) by unfold Ck.do_; rw [if_pos (.inr (by omega))])
      have d1 : decide ((c.words.length : Int) ≤ n) = true := by simp; omega
      have Hrg := Lib.hid hrg
      clear hrg
      clear hr
      go_enter Tryz.func44, Tryz.ntmps44
      go_wp2_with fail
      generalize W.alloc (.cells #[.int .i64 k, .int .i64 n] 44) = W1 at *
      have hld : Later W1 W1.drew := (Later.refl _).drew
      have k0 := hld.cell y0
      have k1 := hld.cell z0
      have k2 := hld.cell z1
      first
        | (go_region_held3 (fun V => V.cell? ⟨a.p, 0, none⟩ = some (.slice a.Wd c.words.length a.cW) ∧ V.cell? ⟨W.heap.size, 0, none⟩ = some (.int .i64 k) ∧ V.cell? ⟨W.heap.size, 1, none⟩ = some (.int .i64 n)) (first | exact ⟨hlr.cell k0, hlr.cell k1, hlr.cell k2⟩ | exact ⟨k0, k1, k2⟩ | fail)
            (first
              | (go_at_call 71; refine (Hrg.out _).mono ?_; rintro e wr ⟨rfl, hbr⟩; have hlr : Later W1.drew wr := hbr)
              | fail))
        | fail
      have hl1 := Hla.out.trans (hld.trans hlr)
      have hMr := HM1.out.to_later (hld.trans hlr)
      have Hl1 := Lib.hid hl1
      have HMr := Lib.hid hMr
      clear hl1 hMr
      clear k0 k1 k2 y0 z0 z1 hlr hld
      go_wp2_with fail
      go_ret
      exact ⟨by rw [HD.out]; rfl, by rw [HD.out]; exact ⟨HMr.out, (Fr.refl _ W).then_below Hl1.out (Nat.le_refl _)⟩⟩
    have d1 : decide ((c.words.length : Int) ≤ n) = false := by simp; omega
    have Hrg := Lib.hid hrg
    clear hrg
    go_enter Tryz.func44, Tryz.ntmps44
    go_wp2_with fail
    generalize W.alloc (.cells #[.int .i64 k, .int .i64 n] 44) = W1 at *
    have hld : Later W1 W1.drew := (Later.refl _).drew
    have k0 := hld.cell y0
    have k1 := hld.cell z0
    have k2 := hld.cell z1
    first
      | (go_region_held3 (fun V => V.cell? ⟨a.p, 0, none⟩ = some (.slice a.Wd c.words.length a.cW) ∧ V.cell? ⟨W.heap.size, 0, none⟩ = some (.int .i64 k) ∧ V.cell? ⟨W.heap.size, 1, none⟩ = some (.int .i64 n)) (first | exact ⟨hlr.cell k0, hlr.cell k1, hlr.cell k2⟩ | exact ⟨k0, k1, k2⟩ | fail)
          (first
            | (go_at_call 71; refine (Hrg.out _).mono ?_; rintro e wr ⟨rfl, hbr⟩; have hlr : Later W1.drew wr := hbr)
            | fail))
      | fail
    have hl1 := hld.trans hlr
    have hF2 : CkF a c W0 s W1 wr := ⟨HM1.out.to_later hl1, (Fr.refl _ W1).then_below hl1 (Nat.le_refl _)⟩
    clear k0 k1 k2 y0 z0 z1 hlr hld Hrg d1 hl1
    obtain ⟨z0, z1⟩ := ck_box Hq.out hF2 hg3
    have HLG := Lib.hid (check_legal a c W0 s wr HS.out hF2.mem k n hr hid hdn)
    have HF2 := Lib.hid hF2
    clear hF2
    go_wp2_with fail
    refine HLG.out.mono ?_
    rintro e w3 ⟨rfl, hl3⟩
    have hF3 := HF2.out.later hl3
    clear z0 z1 HLG HF2 hl3
    cases hlg : Ck.legal c s k n
    · have HD := Lib.hid (show Ck.do_ c s k n = (s, 24) by unfold Ck.do_; rw [if_neg (by rw [hr]; simp; omega), if_pos hlg])
      have HF3 := Lib.hid hF3
      clear hF3
      clear hlg hr
      go_wp2_with fail
      go_ret
      exact ⟨by rw [HD.out]; rfl, by rw [HD.out]; exact HF3.out.base Hla.out⟩
    obtain ⟨z0, z1⟩ := ck_box Hq.out hF3 hg3
    obtain ⟨-, -, -, -, -, -, -, -, -, -, -, -, y12, -⟩ := hF3.mem.cells14
    have hmo := Ck.more_bd HS.out s k hid
    have HMO := Lib.hid (fun V (h : Later w3 V) => check_more a c W0 s V HS.out (hF3.mem.to_later h) k n hr hid)
    have HD := Lib.hid (show Ck.do_ c s k n = if c.cap < s.now + Ck.more c s k n then (s, 25) else (Ck.act c s k n (s.now + Ck.more c s k n), 0) by
      unfold Ck.do_; rw [if_neg (by rw [hr]; simp; omega), if_neg (by rw [hlg]; simp)])
    have HKD := Lib.hid (Ck.right_id hr)
    have HF3 := Lib.hid hF3
    clear hF3
    clear hlg hr
    generalize hmv : Ck.more c s k n = mo at *
    have hwr : IntKind.i64.wrap (s.now + mo) = s.now + mo := IntWalk.i64_in _ (by omega)
    go_upto_region 5 with fail
    have hld : Later w3 w3.drew := (Later.refl _).drew
    have k0 := hld.cell y12
    have k1 := hld.cell z0
    have k2 := hld.cell z1
    first
      | (go_region_held3 (fun V => V.cell? ⟨a.p, 12, none⟩ = some (.int .i64 s.now) ∧ V.cell? ⟨W.heap.size, 0, none⟩ = some (.int .i64 k) ∧ V.cell? ⟨W.heap.size, 1, none⟩ = some (.int .i64 n)) (first | exact ⟨hlm.cell k0, hlm.cell k1, hlm.cell k2⟩ | exact ⟨k0, k1, k2⟩ | fail)
          (first
            | (go_at_call 73; refine (HMO.out _ hld).mono ?_; rintro e w4 ⟨rfl, hlm⟩)
            | fail))
      | fail
    have hF4 := HF3.out.later (hld.trans hlm)
    clear k0 k1 k2 z0 z1 y12 hlm hld HMO HF3
    obtain ⟨-, -, -, -, -, y5, -, -, -, -, -, -, y12, y13⟩ := hF4.mem.cells14
    by_cases hcap : c.cap < s.now + mo
    · have HD2 := Lib.hid (show Ck.do_ c s k n = (s, 25) by rw [HD.out, if_pos hcap])
      have d2 : decide (c.cap < s.now + mo) = true := by simp [hcap]
      have HF4 := Lib.hid hF4
      clear hF4
      clear HD hcap y12 y13
      go_wp2_with fail
      go_ret
      exact ⟨by rw [HD2.out]; rfl, by rw [HD2.out]; exact HF4.out.base Hla.out⟩
    have HD2 := Lib.hid (show Ck.do_ c s k n = (Ck.act c s k n (s.now + mo), 0) by rw [HD.out, if_neg hcap])
    have d2 : decide (c.cap < s.now + mo) = false := by simp; omega
    have hF5a := hF4.now HS.out (s.now + mo)
    have hF5 := hF5a.peak HS.out (max s.peak (s.now + mo))
    have f12 := (hF4.froz 12).1
    have f13 := (hF5a.froz 13).1
    obtain ⟨-, -, -, -, -, -, -, -, -, -, -, -, -, y13a⟩ := hF5a.mem.cells14
    have q1 : (0 : Int) ≤ (n : Int) := by omega
    have q2 : (n : Int) < c.words.length := by omega
    obtain ⟨z0, z1⟩ := ck_box Hq.out hF4 hg3
    have y13a' : (w4.setCell ⟨a.p, 12, none⟩ (.int .i64 (s.now + mo))).cell? ⟨a.p, 13, none⟩ = some (.int .i64 s.peak) := y13a
    obtain ⟨z0a, -⟩ := ck_box Hq.out hF5 hg3
    have HF5 := Lib.hid hF5
    clear hF5
    clear HD hcap hF4 hF5a y13a z0 z1 hwr
    have hkd := HKD.out
    clear HKD
    obtain ⟨l, hle⟩ := Int.eq_ofNat_of_zero_le HS.out.ok.loss.1
    have hll : l < c.words.length := by have := HS.out.ok.loss.2; omega
    have q3 : (0 : Int) ≤ (l : Int) := by omega
    have q4 : (l : Int) < c.words.length := by omega
    obtain ⟨bw, ow, hWd, hcw, hw0, hw1⟩ := HS.out.word hid
    have hws : IntKind.i64.wrap (s.now + mo - Ck.wd c n) = s.now + mo - Ck.wd c n := IntWalk.i64_in _ (by omega)
    rcases hkd with rfl | rfl | rfl | rfl | rfl | rfl
    case inl =>
      go_upto_region 13 with fail
      clear y5 y12 y13 y13a' f12 f13 z0a
      generalize (w4.setCell ⟨a.p, 12, none⟩ (.int .i64 (s.now + mo))).setCell ⟨a.p, 13, none⟩ (.int .i64 (max s.peak (s.now + mo))) = w5 at *
      have hd := HF5.out.later (Later.drew (Later.refl w5))
      obtain ⟨-, -, -, -, -, -, k6, -⟩ := hd.mem.cells14
      have kz := (ck_box Hq.out hd hg3).2
      have kf := (hd.froz n).2.1
      have kb := bool_at hd.mem.pres (i := n) (by rw [hd.mem.l1]; exact hid)
      have hF6 := (HF5.out.pres HS.out n true).later (Later.drew (Later.refl _))
      have HF6 := Lib.hid hF6
      clear hF6
      clear hd HF5
      go_region
      clear k6 kf kb kz
      go_upto_region 14 with fail
      generalize (w5.setCell ⟨a.g1, n, none⟩ (.bool true)).drew = w6 at *
      have hd := HF6.out.later (Later.drew (Later.refl w6))
      obtain ⟨-, -, -, -, -, -, -, k6, -⟩ := hd.mem.cells14
      have kz := (ck_box Hq.out hd hg3).2
      have kf := (hd.froz n).2.2.1
      have kb := bool_at hd.mem.sav (i := n) (by rw [hd.mem.l2]; exact hid)
      have hF7 := (HF6.out.sav HS.out n true).later (Later.drew (Later.refl _))
      have HF7 := Lib.hid hF7
      clear hF7
      clear hd HF6
      go_region
      clear k6 kf kb kz
      go_wp2_with fail
      go_ret
      exact ⟨by rw [HD2.out]; rfl, by rw [HD2.out]; exact HF7.out.base Hla.out⟩
    case inr.inl =>
      go_upto_region 13 with fail
      clear y5 y12 y13 y13a' f12 f13 z0a
      generalize (w4.setCell ⟨a.p, 12, none⟩ (.int .i64 (s.now + mo))).setCell ⟨a.p, 13, none⟩ (.int .i64 (max s.peak (s.now + mo))) = w5 at *
      have hd := HF5.out.later (Later.drew (Later.refl w5))
      obtain ⟨-, -, -, -, -, -, k6, -⟩ := hd.mem.cells14
      have kz := (ck_box Hq.out hd hg3).2
      have kf := (hd.froz n).2.1
      have kb := bool_at hd.mem.pres (i := n) (by rw [hd.mem.l1]; exact hid)
      have hF6 := (HF5.out.pres HS.out n true).later (Later.drew (Later.refl _))
      have HF6 := Lib.hid hF6
      clear hF6
      clear hd HF5
      go_region
      clear k6 kf kb kz
      go_upto_region 14 with fail
      generalize (w5.setCell ⟨a.g1, n, none⟩ (.bool true)).drew = w6 at *
      have hd := HF6.out.later (Later.drew (Later.refl w6))
      obtain ⟨-, -, -, -, -, -, -, k6, -⟩ := hd.mem.cells14
      have kz := (ck_box Hq.out hd hg3).2
      have kf := (hd.froz n).2.2.1
      have kb := bool_at hd.mem.sav (i := n) (by rw [hd.mem.l2]; exact hid)
      have hF7 := (HF6.out.sav HS.out n true).later (Later.drew (Later.refl _))
      have HF7 := Lib.hid hF7
      clear hF7
      clear hd HF6
      go_region
      clear k6 kf kb kz
      go_wp2_with fail
      go_ret
      exact ⟨by rw [HD2.out]; rfl, by rw [HD2.out]; exact HF7.out.base Hla.out⟩
    case inr.inr.inl =>
      go_upto_region 16 with fail
      clear y5 y12 y13 y13a' f12 f13 z0a
      generalize (w4.setCell ⟨a.p, 12, none⟩ (.int .i64 (s.now + mo))).setCell ⟨a.p, 13, none⟩ (.int .i64 (max s.peak (s.now + mo))) = w5 at *
      have hd := HF5.out.later (Later.drew (Later.refl w5))
      obtain ⟨-, -, -, -, -, -, k6, -⟩ := hd.mem.cells14
      have kz := (ck_box Hq.out hd hg3).2
      have kf := (hd.froz n).2.1
      have kb := bool_at hd.mem.pres (i := n) (by rw [hd.mem.l1]; exact hid)
      have hF6 := (HF5.out.pres HS.out n false).later (Later.drew (Later.refl _))
      have HF6 := Lib.hid hF6
      clear hF6
      clear hd HF5
      go_region
      clear k6 kf kb kz
      go_upto_region 17 with fail
      generalize (w5.setCell ⟨a.g1, n, none⟩ (.bool false)).drew = w6 at *
      have hd := HF6.out.later (Later.drew (Later.refl w6))
      obtain ⟨k0, -, -, -, -, -, -, -, -, -, -, -, k12, -⟩ := hd.mem.cells14
      rw [hWd] at k0
      have kz := (ck_box Hq.out hd hg3).2
      have kf := (hd.froz 12).1
      have kw := hd.mem.later.cell hcw
      have hF7 := (HF6.out.now HS.out (s.now + mo - Ck.wd c n)).later (Later.drew (Later.refl _))
      have HF7 := Lib.hid hF7
      clear hF7
      clear hd HF6
      go_region
      clear k0 k12 kz kf kw
      go_wp2_with fail
      go_ret
      exact ⟨by rw [HD2.out]; rfl, by rw [HD2.out]; exact HF7.out.base Hla.out⟩
    case inr.inr.inr.inl =>
      go_upto_region 19 with fail
      clear y5 y12 y13 y13a' f12 f13 z0a
      generalize (w4.setCell ⟨a.p, 12, none⟩ (.int .i64 (s.now + mo))).setCell ⟨a.p, 13, none⟩ (.int .i64 (max s.peak (s.now + mo))) = w5 at *
      obtain ⟨-, -, -, -, -, -, -, -, -, k9, -⟩ := HF5.out.mem.cells14
      have kf := (HF5.out.froz 9).1
      have hF6 := HF5.out.em HS.out true
      have HF6 := Lib.hid hF6
      clear hF6
      clear HF5
      go_wp2_with fail
      go_ret
      exact ⟨by rw [HD2.out]; rfl, by rw [HD2.out]; exact HF6.out.base Hla.out⟩
    case inr.inr.inr.inr.inl =>
      go_upto_region 21 with fail
      clear y5 y12 y13 y13a' f12 f13 z0a
      generalize (w4.setCell ⟨a.p, 12, none⟩ (.int .i64 (s.now + mo))).setCell ⟨a.p, 13, none⟩ (.int .i64 (max s.peak (s.now + mo))) = w5 at *
      obtain ⟨-, -, -, -, -, -, -, -, -, -, k10, -⟩ := HF5.out.mem.cells14
      have kf := (HF5.out.froz 10).1
      have hF6 := HF5.out.sd HS.out true
      have HF6 := Lib.hid hF6
      clear hF6
      clear HF5
      go_upto_region 22 with fail
      generalize w5.setCell ⟨a.p, 10, none⟩ (.bool true) = w6 at *
      clear k10 kf
      have hd := HF6.out.later (Later.drew (Later.refl w6))
      obtain ⟨-, -, -, -, -, -, -, -, k6, -⟩ := hd.mem.cells14
      obtain ⟨-, -, -, -, kl, -⟩ := hd.mem.cells14
      rw [hle] at kl
      have kf := (hd.froz l).2.2.2
      have kb := bool_at hd.mem.grad (i := l) (by rw [hd.mem.l3]; exact hll)
      have hF7 := (HF6.out.grad HS.out l true).later (Later.drew (Later.refl _))
      have HF7 := Lib.hid hF7
      clear hF7
      clear hd HF6
      go_region
      clear k6 kf kb kl
      go_wp2_with fail
      go_ret
      exact ⟨by rw [HD2.out]; rfl, by rw [HD2.out]; have h7 := HF7.out.base Hla.out; unfold Ck.act Ck.setB; rw [hle]; exact h7⟩
    case inr.inr.inr.inr.inr =>
      go_upto_region 24 with fail
      clear y5 y12 y13 y13a' f12 f13 z0a
      generalize (w4.setCell ⟨a.p, 12, none⟩ (.int .i64 (s.now + mo))).setCell ⟨a.p, 13, none⟩ (.int .i64 (max s.peak (s.now + mo))) = w5 at *
      have kz := (ck_box Hq.out HF5.out hg3).2
      go_wp2_with fail
      refine (check_fresh a c W0 _ w5 HS.out HF5.out.mem n hid).mono ?_
      rintro e w6 ⟨v, rfl, hown, hl6⟩
      obtain ⟨A, cp, rfl⟩ := own_form hown
      obtain ⟨hI, -⟩ := own_ints hown
      have hF6 := HF5.out.later hl6
      have hg5 := HF5.out.mem.g3_lt
      have hAb : ∀ ad, A = some ad → ¬ (a.p ≤ ad.block ∧ ad.block ≤ a.g3) := fun ad e => by
        have := (hown.lt ad.block (by rw [e]; rfl)).1
        omega
      have hfin := Ck.fresh_in HS.out s hid
      have HSt := Lib.hid (fun k h => Ck.sets_take s.grad (Ck.fresh c s n) k h)
      have HAct := Lib.hid (show Ck.act c s 6 n (s.now + mo) = { s with grad := (Ck.sets s.grad (Ck.fresh c s n)).set n false, now := s.now + mo - Ck.wd c n, peak := max s.peak (s.now + mo), done := s.done + 1 } from rfl)
      change Ints .i64 w6 A (Ck.fresh c s n) at hI
      have hln : (Ck.fresh c { s with now := s.now + mo, peak := max s.peak (s.now + mo) } n).length = (Ck.fresh c s n).length := rfl
      rw [hln]
      clear hown hl6 HF5 hln hmo hmv kz
      generalize Ck.fresh c s n = fr at *
      have HI := Lib.hid hI
      have HF6 := Lib.hid hF6
      have HAb := Lib.hid hAb
      have Hfin := Lib.hid hfin
      clear hI hF6 hAb hfin
      go_wp2_with fail
      go_loopw [7, 121] (fun _ i wr => ∃ k : Nat, k ≤ fr.length ∧ i = .int .i64 (k : Int) ∧ CkF a c W0 { s with now := s.now + mo, peak := max s.peak (s.now + mo), grad := Ck.sets s.grad (fr.take k) } w6 wr) (fun _ i _ => fr.length - (intOf i).toNat)
      case atStart => exact ⟨0, Nat.zero_le _, rfl, ⟨HF6.out.mem, Fr.refl _ _⟩⟩
      case round =>
        obtain ⟨j, hj, rfl, hF⟩ := hrel
        by_cases hlt : j < fr.length
        · obtain ⟨b3, o3, e3, -, hc3⟩ := (hF.fr.ints HI.out HAb.out) j hlt
          rw [List.getD_eq_getElem?_getD, List.getElem?_eq_getElem hlt, Option.getD_some] at hc3
          have hz := Hfin.out.2 _ (List.getElem_mem hlt)
          have hlf := Hfin.out.1
          have HT := Lib.hid (HSt.out j hlt)
          subst e3
          generalize fr[j] = z at *
          obtain ⟨zn, rfl⟩ := Int.eq_ofNat_of_zero_le hz.1
          have hzn : zn < c.words.length := by omega
          obtain ⟨-, -, -, -, -, -, -, -, k8, -⟩ := hF.mem.cells14
          have kf := (hF.froz zn).2.2.2
          have kb := bool_at hF.mem.grad (i := zn) (by rw [hF.mem.l3]; exact hzn)
          have p1 : (0 : Int) ≤ (zn : Int) := by omega
          have p2 : (zn : Int) < c.words.length := by omega
          have HF7 := Lib.hid (hF.grad HS.out zn true)
          clear hF
          go_wp2_with fail
          go_roundw
          case rel => exact ⟨j + 1, by omega, by go_num, by rw [HT.out]; exact HF7.out⟩
          case measure => simp [intOf]; omega
        · obtain rfl : j = fr.length := by omega
          rw [List.take_length] at hF
          have HFL := Lib.hid (HF6.out.trans hF)
          clear hF
          go_upto_region 29 with fail
          have hd := HFL.out.later (Later.drew (Later.refl wr))
          obtain ⟨-, -, -, -, -, -, -, -, k6, -⟩ := hd.mem.cells14
          have kz := (ck_box Hq.out hd hg3).2
          have kf := (hd.froz n).2.2.2
          have kb := bool_at hd.mem.grad (i := n) (by rw [hd.mem.l3]; exact hid)
          have hF8 := (HFL.out.grad HS.out n false).later (Later.drew (Later.refl _))
          have HF8 := Lib.hid hF8
          clear hF8
          clear hd HFL
          go_region
          clear k6 kf kb kz
          go_upto_region 30 with fail
          generalize (wr.setCell ⟨a.g3, n, none⟩ (.bool false)).drew = w8 at *
          have hd := HF8.out.later (Later.drew (Later.refl w8))
          obtain ⟨k0, -, -, -, -, -, -, -, -, -, -, -, k12, -⟩ := hd.mem.cells14
          rw [hWd] at k0
          have kz := (ck_box Hq.out hd hg3).2
          have kf := (hd.froz 12).1
          have kw := hd.mem.later.cell hcw
          have hF9 := (HF8.out.now HS.out (s.now + mo - Ck.wd c n)).later (Later.drew (Later.refl _))
          have HF9 := Lib.hid hF9
          clear hF9
          clear hd HF8
          go_region
          clear k0 k12 kz kf kw
          go_upto_region 31 with fail
          generalize (w8.setCell ⟨a.p, 12, none⟩ (.int .i64 (s.now + mo - Ck.wd c n))).drew = w9 at *
          obtain ⟨-, -, -, -, -, -, -, -, -, -, -, k11, -⟩ := HF9.out.mem.cells14
          have kf := (HF9.out.froz 11).1
          have v1 : IntKind.i64.wrap ((s.done : Int) + 1) = (s.done : Int) + 1 := IntWalk.i64_in _ (by omega)
          have hF10 := HF9.out.done HS.out (s.done + 1)
          have HF10 := Lib.hid hF10
          clear hF10
          clear HF9
          go_wp2_with fail
          go_ret
          exact ⟨by rw [HD2.out]; rfl, by rw [HD2.out, HAct.out]; exact HF10.out.base Hla.out⟩
end Go.Proofs.YtnffjfjhbjeaiaaGreatDoor
/- Layer 18 (check): New: contract. -/
namespace Go.Proofs.YtnffjfjhbjeaiaaGreatDoor
open Go.RowKit
def CloneQ (zs : List Int) (w : World) (e : Ending) (w' : World) : Prop :=
  ∃ J jc, e = .returned (.slice J zs.length jc) ∧ w'.ownsRow w.heap.size 3 1 (.slice J zs.length jc) zs.length (zs.map (Value.int .i64)) ∧ Below w.heap.size w w'
theorem clone_row (A : Option Addr) (c : Nat) (zs : List Int) (w : World) (hl : zs.length ≤ 1048576) (hI : Ints .i64 w A zs) :
    Calls Tryz.prog 70 #[.slice A zs.length c] w (CloneQ zs w) := by
  by_cases h : zs = []
  · subst h
    rcases A with _ | a
    · refine (Tryz.slices_Clone_int_nil 0 c w).mono ?_
      rintro e w' ⟨rfl, rfl⟩
      exact ⟨none, 0, rfl, World.ownsRow_nil _ _ _ _, Below.refl _ _⟩
    · refine (Tryz.slices_Clone_int_zero a c w).mono ?_
      rintro e w' ⟨v, rfl, ho, -, hb⟩
      obtain ⟨J, jc, rfl⟩ := own_form ho
      exact ⟨J, jc, rfl, ho, hb⟩
  · obtain ⟨b, off, rfl, -, -⟩ := hI 0 (List.length_pos_iff.2 h)
    refine (Tryz.slices_Clone_int b off zs.length c zs w (Nat.le_refl _) (by omega) (fun j hj => ?_)).mono ?_
    · obtain ⟨b', o', e, -, hc⟩ := hI j hj
      injection e with e; injection e with e1 e2; subst e1 e2
      exact hc
    · rintro e w' ⟨v, rfl, ho, -, hb⟩
      rw [List.take_length] at ho
      obtain ⟨J, jc, rfl⟩ := own_form ho
      exact ⟨J, jc, rfl, ho, hb⟩

theorem ck_ints {w : World} {g : Nat} {t : TypeId} (l : List Int) (h : Blk w g t (l.map (Value.int .i64)).toArray) : Ints .i64 w (some ⟨g, 0, none⟩) l := Ints.of_row fun j hj => by
  rw [Nat.zero_add, h.cell]; simp [hj]
theorem Ck.base_ok {n : NetD} (h : Nt.check n = 0) (hok : n.ok) {cap : Int} (hc : -9223372036854775808 ≤ cap ∧ cap ≤ 9223372036854775807) : (Ck.base n cap).Ok := by
  obtain ⟨h1, h2, h3, h4, h5, h6, h7, h8⟩ := Nt.check_ok h
  have hw := Nt.words_len h
  obtain ⟨-, l1, l2⟩ := Nt.loss_mem h7
  have hcl : (Nt.costs n).length = n.nodes.length + 1 := by rw [Nt.costs, List.length_cons, Nt.costsTo_len]
  refine ⟨by show 1 ≤ (Nt.words n).length; omega, by show (Nt.words n).length ≤ 513; omega, by show (Nt.costs n).length = (Nt.words n).length; omega, ?_, ?_, ?_, ?_, ?_, hc⟩
  · show ([] :: n.nodes.map (·.ins)).length = (Nt.words n).length
    rw [hw]; simp
  · intro r hr
    rcases List.mem_cons.1 hr with rfl | hr
    · simp
    · obtain ⟨v, hv, rfl⟩ := List.mem_map.1 hr
      obtain ⟨-, hb⟩ := Nt.bads_all h4 v hv
      have hlen := (hok.2.2 v hv).2.2.1
      exact ⟨hlen, fun i hi => by have := hb i hi; show 0 ≤ i ∧ i < ((Nt.words n).length : Int); omega⟩
  · show (Nt.sorted n.nodes).length ≤ 512; omega
  · show 0 ≤ Nt.loss n.nodes ∧ Nt.loss n.nodes < ((Nt.words n).length : Int); omega
  · intro z hz; have := Nt.words_bd h z hz; omega
/-- The rows of ins, the first k filled. -/
def Ck.rk (n : NetD) (k : Nat) : List (List Int) := [] :: ((n.nodes.take k).map (·.ins) ++ List.replicate (n.nodes.length - k) [])
theorem Ck.rk_zero (n : NetD) : Ck.rk n 0 = List.replicate (n.nodes.length + 1) [] := by simp [Ck.rk, List.replicate_succ]
theorem Ck.rk_len (n : NetD) {k : Nat} (h : k ≤ n.nodes.length) : (Ck.rk n k).length = n.nodes.length + 1 := by simp [Ck.rk]; omega
theorem Ck.rk_succ (n : NetD) {k : Nat} (h : k < n.nodes.length) : (Ck.rk n k).set (k + 1) n.nodes[k].ins = Ck.rk n (k + 1) := by
  unfold Ck.rk
  rw [List.set_cons_succ, List.take_succ_eq_append_getElem h, List.map_append]
  congr 1
  have hr : List.replicate (n.nodes.length - k) ([] : List Int) = [] :: List.replicate (n.nodes.length - (k + 1)) [] := by
    rw [← List.replicate_succ]; congr 1; omega
  rw [hr, List.set_append_right _ _ (by simp; omega)]
  simp [Nat.min_eq_left (Nat.le_of_lt h)]
theorem Ck.rk_all (n : NetD) : Ck.rk n n.nodes.length = [] :: n.nodes.map (·.ins) := by simp [Ck.rk]
def NewP (n : NetD) (cap : Int) (W : World) (e : Ending) (w' : World) : Prop :=
  (Nt.check n ≠ 0 ∧ e = .returned (.tuple #[.pointer none, .int .i64 (Nt.check n)]) ∨ Nt.check n = 0 ∧ ∃ a W0, CkA.Still a (Ck.base n cap) W0 ∧ Later W W0 ∧ e = .returned (.tuple #[.pointer (some ⟨a.p, 0, none⟩), .int .i64 0]) ∧ CkM a (Ck.base n cap) W0 (Ck.start (n.nodes.length + 1)) w') ∧ Later W w'
set_option maxHeartbeats 16000000 in
set_option maxRecDepth 100000 in
theorem check_new (A N : Option Addr) (c d : Nat) (n : NetD) (cap : Int) (W : World) (hok : n.ok) (hR : NetR W A N n) (hd : n.nodes.length ≤ d) (hsm : n.nodes.length ≤ 200) (hcap : -9223372036854775808 ≤ cap ∧ cap ≤ 9223372036854775807) :
    Calls Tryz.prog 42 #[.agg #[.slice A n.inn.length c, .slice N n.nodes.length d], .int .i64 cap] W (NewP n cap W) := by
  have hk0 := Blk.new W 26 #[.slice A n.inn.length c, .slice N n.nodes.length d]
  have hl0 : Later W (W.alloc (.cells #[.slice A n.inn.length c, .slice N n.nodes.length d] 26)) := (Later.refl W).alloc _
  have HR := Lib.hid hR
  have Hok := Lib.hid hok
  have Hk0 := Lib.hid hk0
  have Hl0 := Lib.hid hl0
  clear hR hok hk0 hl0
  go_enter Tryz.func42, Tryz.ntmps42
  go_wp2_with fail
  generalize W.alloc (.cells #[.slice A n.inn.length c, .slice N n.nodes.length d] 26) = W1 at *
  refine (price_of A N c d n W1 Hok.out (HR.out.below Hl0.out (Nat.le_refl _)) hd hsm).mono ?_
  rintro e W2 ⟨h2, hcase⟩
  have h12 : Later W1 W2 := h2
  by_cases hch : Nt.check n = 0
  rotate_left
  · rcases hcase with ⟨h0, _⟩ | ⟨_, rfl⟩
    · exact absurd h0 hch
    have hne : (Nt.check n != 0) = true := by simp [hch]
    have hl2 := Hl0.out.trans h12
    have hl3 := hl2.alloc (.cells #[.slice none 0 0, .slice none 0 0, .int .i64 0] 123)
    have Hch := Lib.hid hch
    have Hl3 := Lib.hid hl3
    clear hch hl3
    clear h2 h12 hl2
    go_wp2_with fail
    go_ret2
    exact ⟨.inl ⟨Hch.out, rfl⟩, Hl3.out⟩
  rcases hcase with ⟨_, g, g2, rfl, hG, hG2⟩ | ⟨h0, _⟩
  rotate_left
  · exact absurd hch h0
  have hpr := Blk.new W2 123 #[.slice (some ⟨g, 0, none⟩) (n.nodes.length + 1) (n.nodes.length + 1), .slice (some ⟨g2, 0, none⟩) (n.nodes.length + 1) (n.nodes.length + 1), .int .i64 (Nt.total n)]
  have h23 : Later W2 (W2.alloc (.cells #[.slice (some ⟨g, 0, none⟩) (n.nodes.length + 1) (n.nodes.length + 1), .slice (some ⟨g2, 0, none⟩) (n.nodes.length + 1) (n.nodes.length + 1), .int .i64 (Nt.total n)] 123)) := (Later.refl W2).alloc _
  have hk3 := (h12.trans h23).blk Hk0.out
  have hl3 := (Hl0.out.trans h12).trans h23
  have hG3 := h23.blk hG
  have hG23 := h23.blk hG2
  have e0 := hk3.cell 0
  have e1 := hk3.cell 1
  simp at e0 e1
  have Hpr := Lib.hid hpr
  have Hk3 := Lib.hid hk3
  have Hl3 := Lib.hid hl3
  have HG3 := Lib.hid hG3
  have HG23 := Lib.hid hG23
  have Hch := Lib.hid hch
  clear hpr hk3 hl3 hG3 hG23 hch
  clear h2 h12 h23 hG hG2 Hk0 Hl0
  go_wp2_with fail
  generalize W2.alloc (.cells #[.slice (some ⟨g, 0, none⟩) (n.nodes.length + 1) (n.nodes.length + 1), .slice (some ⟨g2, 0, none⟩) (n.nodes.length + 1) (n.nodes.length + 1), .int .i64 (Nt.total n)] 123) = W3 at *
  generalize W2.heap.size = pb at *
  refine (net_order A N c d n W3 Hok.out (HR.out.below Hl3.out (Nat.le_refl _)) hd).mono ?_
  rintro e W4 ⟨h4, hcase⟩
  rcases hcase with ⟨_, O, oc, rfl, hO, -, -⟩ | ⟨h0, _⟩
  rotate_left
  · exact absurd Hch.out h0
  have h34 : Later W3 W4 := h4
  have hl4 := Hl3.out.trans h34
  have hk4 := h34.blk Hk3.out
  have hO4 := hO
  clear e0 e1
  have e0 := hk4.cell 0
  have e1 := hk4.cell 1
  simp at e0 e1
  have Hl4 := Lib.hid hl4
  have Hk4 := Lib.hid hk4
  have HO4 := Lib.hid hO4
  have H34 := Lib.hid h34
  clear hl4 hk4 hO4 h34
  clear h4 hO Hk3 Hl3
  go_wp2_with fail
  refine (net_loss A N c d n W4 Hok.out (HR.out.below Hl4.out (Nat.le_refl _)) hd).mono ?_
  rintro e W5 ⟨rfl, h5⟩
  rw [Hch.out, show lossE n = Nt.loss n.nodes by unfold lossE; rw [if_pos Hch.out]]
  have h45 : Later W4 W5 := h5
  have h35 := H34.out.trans h45
  have hl5 := Hl4.out.trans h45
  have hk5 := h45.blk Hk4.out
  have hO5 := HO4.out.below h45 (Nat.le_refl _)
  have hpr5 := h35.blk Hpr.out
  have hG5 := h35.blk HG3.out
  have hG25 := h35.blk HG23.out
  clear e0 e1
  have e1 := hk5.cell 1
  simp at e1
  have Hl5 := Lib.hid hl5
  have Hk5 := Lib.hid hk5
  have HO5 := Lib.hid hO5
  have Hpr5 := Lib.hid hpr5
  have HG5 := Lib.hid hG5
  have HG25 := Lib.hid hG25
  clear hl5 hk5 hO5 hpr5 hG5 hG25
  clear h5 h45 h35 Hk4 Hl4 HO4 Hpr HG3 HG23 H34
  obtain ⟨i0, hi, hz0, hz1, hz2⟩ := info_parts intsT_info
  obtain ⟨i1, hj, hy0, hy1, hy2⟩ := info_parts bool_info
  have w1 : IntKind.i64.wrap ((n.nodes.length : Int) + 1) = ((n.nodes.length + 1 : Nat) : Int) := by rw [IntWalk.i64_in _ (by omega)]; omega
  have w2 : IntKind.i64.wrap ((n.nodes.length + 1 : Nat) : Int) = ((n.nodes.length + 1 : Nat) : Int) := IntWalk.i64_in _ (by omega)
  go_wp2_with (at_make; refine wpList_make_full _ rfl _ _ 34 rfl W5.heap.size 22 i0 (.slice none 0 0) 1 Tryz.underlying34 hi hz0 hz1 _ _ _ _ (n.nodes.length + 1) rfl rfl (by first | rfl | simp | (go_simp; rfl)) (by first | rfl | simp | (go_simp; rfl)) ?b2 ?b3 ?b4 ?_)
  case b2 => rw [hz2]; omega
  case b3 => unfold maxLen; omega
  case b4 => simp
  intro W6 hown hgrow
  have hblk := own_cur hown
  rw [made_one] at hblk
  have hrow : ShpRow W6 W5.heap.size 22 (Ck.rk n 0) := by rw [Ck.rk_zero]; exact ShpRow.new (by simpa [Blk] using hblk)
  have hl56 : Later W5 W6 := (Below.refl _ W5).grown hgrow (by simp) (by simp)
  clear e1
  have e1 := (hl56.blk Hk5.out).cell 1
  simp at e1
  have Hrow := Lib.hid hrow
  have Hl56 := Lib.hid hl56
  clear hrow hl56
  clear hblk hown hgrow
  go_wp2_with fail
  obtain ⟨wb, hwb⟩ : ∃ wb : World, wb = W5 := ⟨W5, rfl⟩
  go_loopw [11, 12, 46] (fun _ _ i wr => ∃ k : Nat, k ≤ n.nodes.length ∧ i = .int .i64 (k : Int) ∧ ShpRow wr W5.heap.size 22 (Ck.rk n k) ∧ Later W5 wr) (fun _ _ i _ => n.nodes.length - (intOf i).toNat)
  case atStart => exact ⟨0, Nat.zero_le _, rfl, Hrow.out, Hl56.out⟩
  case round =>
    clear Hrow Hl56 e1
    obtain ⟨wo, rfl⟩ : ∃ wo : World, wo = wr := ⟨wr, rfl⟩
    obtain ⟨k, hk, rfl, hrow, hlw⟩ := hrel
    have hlz := Hl5.out.trans hlw
    have hsz := Below.size hlw
    by_cases hlt : k < n.nodes.length
    · obtain ⟨b, off, S, sc, J, ic, Q, qc, rfl, hNA, -, hjc, -⟩ := HR.out.2.at_ hlt
      have hvok := Hok.out.2.2 _ (List.getElem_mem hlt)
      have HRK := Lib.hid (Ck.rk_succ n hlt)
      have hrl := Ck.rk_len n hk
      generalize n.nodes[k] = v at *
      obtain ⟨y0, y1, y2, y3, y4, y5, y6, y7, y8, y9⟩ := (hNA.below hlz).1
      have hJ := hNA.2.2.1.below hlz (Nat.le_refl _)
      have hlv := hvok.2.2.1
      have hb7 : Later wo (wo.alloc (.cells #[.int .i64 v.op.kind, .int .i64 v.op.k, .int .i64 v.op.width, .int .i64 v.op.step, .int .i64 v.op.side, .int .i64 v.op.frm, .int .i64 v.op.to, .slice S v.op.s.length sc, .slice J v.ins.length ic, .slice Q v.p.length qc] 67)) := (Later.refl wo).alloc _
      have hJ7 := hJ.below hb7 (Nat.le_refl _)
      have hrow7 := hrow.below hb7 (Nat.le_refl _)
      have hl7 := hlw.trans hb7
      have p1 : IntKind.i64.wrap ((k : Int) + 1) = ((k + 1 : Nat) : Int) := by rw [IntWalk.i64_in _ (by omega)]; omega
      have p2 : ((k + 1 : Nat) : Int) < ((n.nodes.length + 1 : Nat) : Int) := by omega
      have p3 : (0 : Int) ≤ ((k + 1 : Nat) : Int) := by omega
      have p4 : ((k + 1 : Nat) : Int).toNat = k + 1 := by omega
      have HJ7 := Lib.hid hJ7
      have Hrow7 := Lib.hid hrow7
      have Hl7 := Lib.hid hl7
      clear hJ7 hrow7 hl7
      clear hNA hJ hrow hb7 hlz hvok
      go_wp2_with fail
      clear y0 y1 y2 y3 y4 y5 y6 y7 y8 y9
      generalize wo.alloc (.cells #[.int .i64 v.op.kind, .int .i64 v.op.k, .int .i64 v.op.width, .int .i64 v.op.step, .int .i64 v.op.side, .int .i64 v.op.frm, .int .i64 v.op.to, .slice S v.op.s.length sc, .slice J v.ins.length ic, .slice Q v.p.length qc] 67) = w7 at *
      refine (clone_row J ic v.ins _ hlv HJ7.out).mono ?_
      rintro e w8 ⟨J8, jc8, rfl, hown8, hb8⟩
      have hl8 := Hl7.out.trans (show Later w7 w8 from hb8)
      have hrow8 := Hrow7.out.below hb8 (Nat.le_refl _)
      obtain ⟨hI8, q1, q2⟩ := own_ints hown8
      obtain ⟨S0, cc, hcell, -⟩ := hrow8.at_ (j := k + 1) (by omega)
      have hfz : w8.frozen? ⟨W5.heap.size, k + 1, none⟩ = false := by obtain ⟨vs, _, hk, _⟩ := hrow8; exact hk.frozen (k + 1)
      have hs7 := Below.size Hl7.out
      have hg5 := Hrow7.out.lt
      have hrow9 := hrow8.set_ (i := k + 1) hI8 q1 q2 (fun ad e => by
        have := (hown8.lt ad.block (by rw [e]; rfl)).1
        omega)
      rw [HRK.out] at hrow9
      have hl9 := Later.set hl8 (p := ⟨W5.heap.size, k + 1, none⟩) (Nat.le_refl _) (.slice J8 v.ins.length jc8)
      have Hrow9 := Lib.hid hrow9
      have Hl9 := Lib.hid hl9
      clear hrow9 hl9
      clear hown8 hb8 hl8 hrow8 hI8 HJ7 Hrow7 Hl7 hlw
      go_wp2_with fail
      go_roundw
      case rel => exact ⟨k + 1, by omega, by go_num, Hrow9.out, Hl9.out⟩
      case measure => simp [intOf]; omega
    · obtain rfl : k = n.nodes.length := by omega
      rw [Ck.rk_all] at hrow
      have hprw := hlw.blk Hpr5.out
      have hst := Blk.new wo 99 #[.slice (some ⟨g, 0, none⟩) (n.nodes.length + 1) (n.nodes.length + 1), .slice (some ⟨g2, 0, none⟩) (n.nodes.length + 1) (n.nodes.length + 1), .slice (some ⟨W5.heap.size, 0, none⟩) (n.nodes.length + 1) (n.nodes.length + 1), .slice O n.nodes.length oc, .int .i64 (Nt.loss n.nodes), .int .i64 cap, .slice none 0 0, .slice none 0 0, .slice none 0 0, .bool false, .bool false, .int .i64 0, .int .i64 0, .int .i64 0]
      have hsl : Later wo (wo.alloc (.cells #[.slice (some ⟨g, 0, none⟩) (n.nodes.length + 1) (n.nodes.length + 1), .slice (some ⟨g2, 0, none⟩) (n.nodes.length + 1) (n.nodes.length + 1), .slice (some ⟨W5.heap.size, 0, none⟩) (n.nodes.length + 1) (n.nodes.length + 1), .slice O n.nodes.length oc, .int .i64 (Nt.loss n.nodes), .int .i64 cap, .slice none 0 0, .slice none 0 0, .slice none 0 0, .bool false, .bool false, .int .i64 0, .int .i64 0, .int .i64 0] 99)) := (Later.refl wo).alloc _
      have hGw := hlw.blk HG5.out
      have hG2w := hlw.blk HG25.out
      have hOw := HO5.out.below hlw (Nat.le_refl _)
      have x0 := hprw.cell 0
      have x1 := hprw.cell 1
      simp at x0 x1
      have hwl := Nt.words_len Hch.out
      have Hrow := Lib.hid hrow
      have Hst := Lib.hid hst
      have Hsl := Lib.hid hsl
      have HGw := Lib.hid hGw
      have HG2w := Lib.hid hG2w
      have HOw := Lib.hid hOw
      have Hlz := Lib.hid hlz
      clear hrow hst hsl hGw hG2w hOw hlz
      clear hlw hprw Hl5 Hk5 HO5 Hpr5 HG5 HG25 hk hlt
      go_wp2_with (at_make; refine wpList_make_full _ rfl _ _ 72 rfl wo.heap.size 4 i1 (.bool false) 1 Tryz.underlying72 hj hy0 hy1 _ _ _ _ (n.nodes.length + 1) rfl rfl (by first | rfl | simp | (go_simp; rfl)) (by first | rfl | simp | (go_simp; rfl)) ?c2 ?c3 ?c4 ?_)
      case c2 => rw [hy2]; omega
      case c3 => unfold maxLen; omega
      case c4 => simp
      intro w7 hown7 hgrow7
      have hblk7 := own_cur hown7
      rw [made_one] at hblk7
      have hp7 : Blk w7 (wo.heap.size + 1) 4 ((List.replicate (n.nodes.length + 1) false).map Value.bool).toArray := by rw [List.map_replicate]; simpa [Blk] using hblk7
      have hst7 := Hst.out.grown hgrow7 (by simp)
      have hsl7 : Later wo w7 := Below.grown Hsl.out hgrow7 (by simp) (by simp)
      have y6 : w7.cell? ⟨wo.heap.size, 6, none⟩ = some (.slice none 0 0) := hst7.cell 6
      have f6 := hst7.frozen 6
      have hst8 : Blk (w7.setCell ⟨wo.heap.size, 6, none⟩ (.slice (some ⟨wo.heap.size + 1, 0, none⟩) (n.nodes.length + 1) (n.nodes.length + 1))) wo.heap.size 99 #[.slice (some ⟨g, 0, none⟩) (n.nodes.length + 1) (n.nodes.length + 1), .slice (some ⟨g2, 0, none⟩) (n.nodes.length + 1) (n.nodes.length + 1), .slice (some ⟨W5.heap.size, 0, none⟩) (n.nodes.length + 1) (n.nodes.length + 1), .slice O n.nodes.length oc, .int .i64 (Nt.loss n.nodes), .int .i64 cap, .slice (some ⟨wo.heap.size + 1, 0, none⟩) (n.nodes.length + 1) (n.nodes.length + 1), .slice none 0 0, .slice none 0 0, .bool false, .bool false, .int .i64 0, .int .i64 0, .int .i64 0] := hst7.set_ 6 _
      have hp8 := hp7.far (p := ⟨wo.heap.size, 6, none⟩) (by simp) (.slice (some ⟨wo.heap.size + 1, 0, none⟩) (n.nodes.length + 1) (n.nodes.length + 1))
      have hsl8 := hsl7.set (p := ⟨wo.heap.size, 6, none⟩) (Nat.le_refl _) (.slice (some ⟨wo.heap.size + 1, 0, none⟩) (n.nodes.length + 1) (n.nodes.length + 1))
      have Hst8 := Lib.hid hst8
      have Hp8 := Lib.hid hp8
      have Hsl8 := Lib.hid hsl8
      clear hst8 hp8 hsl8
      clear hown7 hgrow7 hblk7 hp7 hst7 hsl7 Hst Hsl x0 x1
      go_upto_region 18 with fail
      generalize w7.setCell ⟨wo.heap.size, 6, none⟩ (.slice (some ⟨wo.heap.size + 1, 0, none⟩) (n.nodes.length + 1) (n.nodes.length + 1)) = w8 at *
      clear y6 f6
      have s8 := Hp8.out.lt
      have t8 := Below.size Hsl8.out
      have y7 : w8.cell? ⟨wo.heap.size, 7, none⟩ = some (.slice none 0 0) := Hst8.out.cell 7
      have f7 := Hst8.out.frozen 7
      clear y7 f7
      go_wp2_with (at_make; refine wpList_make_full _ rfl _ _ 72 rfl wo.heap.size 4 i1 (.bool false) 1 Tryz.underlying72 hj hy0 hy1 _ _ _ _ (n.nodes.length + 1) rfl rfl (by first | rfl | simp | (go_simp; rfl)) (by first | rfl | simp | (go_simp; rfl)) ?d2 ?d3 ?d4 ?_)
      case d2 => rw [hy2]; omega
      case d3 => unfold maxLen; omega
      case d4 => first | omega | simp
      intro w9 hown9 hgrow9
      have hblk9 := own_cur hown9
      rw [made_one] at hblk9
      have hq9 : Blk w9 w8.heap.size 4 ((List.replicate (n.nodes.length + 1) false).map Value.bool).toArray := by rw [List.map_replicate]; simpa [Blk] using hblk9
      have hst9 := Hst8.out.grown hgrow9 (by simp)
      have hp9 := Hp8.out.grown hgrow9 (by simp)
      have hsl9 : Later wo w9 := Below.grown Hsl8.out hgrow9 (by omega) (by simp)
      have y7 : w9.cell? ⟨wo.heap.size, 7, none⟩ = some (.slice none 0 0) := hst9.cell 7
      have f7 := hst9.frozen 7
      have hst10 : Blk (w9.setCell ⟨wo.heap.size, 7, none⟩ (.slice (some ⟨w8.heap.size, 0, none⟩) (n.nodes.length + 1) (n.nodes.length + 1))) wo.heap.size 99 #[.slice (some ⟨g, 0, none⟩) (n.nodes.length + 1) (n.nodes.length + 1), .slice (some ⟨g2, 0, none⟩) (n.nodes.length + 1) (n.nodes.length + 1), .slice (some ⟨W5.heap.size, 0, none⟩) (n.nodes.length + 1) (n.nodes.length + 1), .slice O n.nodes.length oc, .int .i64 (Nt.loss n.nodes), .int .i64 cap, .slice (some ⟨wo.heap.size + 1, 0, none⟩) (n.nodes.length + 1) (n.nodes.length + 1), .slice (some ⟨w8.heap.size, 0, none⟩) (n.nodes.length + 1) (n.nodes.length + 1), .slice none 0 0, .bool false, .bool false, .int .i64 0, .int .i64 0, .int .i64 0] := hst9.set_ 7 _
      have hp10 := hp9.far (p := ⟨wo.heap.size, 7, none⟩) (by simp) (.slice (some ⟨w8.heap.size, 0, none⟩) (n.nodes.length + 1) (n.nodes.length + 1))
      have hq10 := hq9.far (p := ⟨wo.heap.size, 7, none⟩) (by simp; omega) (.slice (some ⟨w8.heap.size, 0, none⟩) (n.nodes.length + 1) (n.nodes.length + 1))
      have hsl10 := hsl9.set (p := ⟨wo.heap.size, 7, none⟩) (Nat.le_refl _) (.slice (some ⟨w8.heap.size, 0, none⟩) (n.nodes.length + 1) (n.nodes.length + 1))
      have Hst10 := Lib.hid hst10
      have Hp10 := Lib.hid hp10
      have Hq10 := Lib.hid hq10
      have Hsl10 := Lib.hid hsl10
      clear hst10 hp10 hq10 hsl10
      clear hown9 hgrow9 hblk9 hp9 hq9 hst9 hsl9 Hst8 Hp8 Hsl8
      go_upto_region 19 with fail
      generalize w9.setCell ⟨wo.heap.size, 7, none⟩ (.slice (some ⟨w8.heap.size, 0, none⟩) (n.nodes.length + 1) (n.nodes.length + 1)) = w10 at *
      clear y7 f7
      have s10 := Hq10.out.lt
      have t10 := Below.size Hsl10.out
      go_wp2_with (at_make; refine wpList_make_full _ rfl _ _ 72 rfl wo.heap.size 4 i1 (.bool false) 1 Tryz.underlying72 hj hy0 hy1 _ _ _ _ (n.nodes.length + 1) rfl rfl (by first | rfl | simp | (go_simp; rfl)) (by first | rfl | simp | (go_simp; rfl)) ?f2 ?f3 ?f4 ?_)
      case f2 => rw [hy2]; omega
      case f3 => unfold maxLen; omega
      case f4 => first | omega | simp
      intro w11 hown11 hgrow11
      have hblk11 := own_cur hown11
      rw [made_one] at hblk11
      have hr11 : Blk w11 w10.heap.size 4 ((List.replicate (n.nodes.length + 1) false).map Value.bool).toArray := by rw [List.map_replicate]; simpa [Blk] using hblk11
      have hst11 := Hst10.out.grown hgrow11 (by simp)
      have hp11 := Hp10.out.grown hgrow11 (by simp)
      have hq11 := Hq10.out.grown hgrow11 (by simp)
      have hsl11 : Later wo w11 := Below.grown Hsl10.out hgrow11 (by omega) (by simp)
      have y8 : w11.cell? ⟨wo.heap.size, 8, none⟩ = some (.slice none 0 0) := hst11.cell 8
      have f8 := hst11.frozen 8
      have hst12 : Blk (w11.setCell ⟨wo.heap.size, 8, none⟩ (.slice (some ⟨w10.heap.size, 0, none⟩) (n.nodes.length + 1) (n.nodes.length + 1))) wo.heap.size 99 #[.slice (some ⟨g, 0, none⟩) (n.nodes.length + 1) (n.nodes.length + 1), .slice (some ⟨g2, 0, none⟩) (n.nodes.length + 1) (n.nodes.length + 1), .slice (some ⟨W5.heap.size, 0, none⟩) (n.nodes.length + 1) (n.nodes.length + 1), .slice O n.nodes.length oc, .int .i64 (Nt.loss n.nodes), .int .i64 cap, .slice (some ⟨wo.heap.size + 1, 0, none⟩) (n.nodes.length + 1) (n.nodes.length + 1), .slice (some ⟨w8.heap.size, 0, none⟩) (n.nodes.length + 1) (n.nodes.length + 1), .slice (some ⟨w10.heap.size, 0, none⟩) (n.nodes.length + 1) (n.nodes.length + 1), .bool false, .bool false, .int .i64 0, .int .i64 0, .int .i64 0] := hst11.set_ 8 _
      have hp12 := hp11.far (p := ⟨wo.heap.size, 8, none⟩) (by simp) (.slice (some ⟨w10.heap.size, 0, none⟩) (n.nodes.length + 1) (n.nodes.length + 1))
      have hq12 := hq11.far (p := ⟨wo.heap.size, 8, none⟩) (by simp; omega) (.slice (some ⟨w10.heap.size, 0, none⟩) (n.nodes.length + 1) (n.nodes.length + 1))
      have hr12 := hr11.far (p := ⟨wo.heap.size, 8, none⟩) (by simp; omega) (.slice (some ⟨w10.heap.size, 0, none⟩) (n.nodes.length + 1) (n.nodes.length + 1))
      have hsl12 := hsl11.set (p := ⟨wo.heap.size, 8, none⟩) (Nat.le_refl _) (.slice (some ⟨w10.heap.size, 0, none⟩) (n.nodes.length + 1) (n.nodes.length + 1))
      have Hst12 := Lib.hid hst12
      have Hp12 := Lib.hid hp12
      have Hq12 := Lib.hid hq12
      have Hr12 := Lib.hid hr12
      have Hsl12 := Lib.hid hsl12
      clear hst12 hp12 hq12 hr12 hsl12
      clear hown11 hgrow11 hblk11 hp11 hq11 hr11 hst11 hsl11 Hst10 Hp10 Hq10 Hsl10
      go_upto_region 20 with fail
      generalize w11.setCell ⟨wo.heap.size, 8, none⟩ (.slice (some ⟨w10.heap.size, 0, none⟩) (n.nodes.length + 1) (n.nodes.length + 1)) = w12 at *
      clear y8 f8
      have y6 : w12.cell? ⟨wo.heap.size, 6, none⟩ = some (.slice (some ⟨wo.heap.size + 1, 0, none⟩) (n.nodes.length + 1) (n.nodes.length + 1)) := Hst12.out.cell 6
      have z0 : w12.cell? ⟨wo.heap.size + 1, 0, none⟩ = some (.bool false) := by rw [Hp12.out.cell]; simp
      have f0 := Hp12.out.frozen 0
      have hp13 := Hp12.out.set_ 0 (.bool true)
      rw [bools_set] at hp13
      have hst13 := Hst12.out.far (p := ⟨wo.heap.size + 1, 0, none⟩) (by simp) (.bool true)
      have hq13 := Hq12.out.far (p := ⟨wo.heap.size + 1, 0, none⟩) (by simp; omega) (.bool true)
      have hr13 := Hr12.out.far (p := ⟨wo.heap.size + 1, 0, none⟩) (by simp; omega) (.bool true)
      have hsl13 := Hsl12.out.set (p := ⟨wo.heap.size + 1, 0, none⟩) (by simp) (.bool true)
      have q0 : (0 : Int) < ((n.nodes.length + 1 : Nat) : Int) := by omega
      have Hp13 := Lib.hid hp13
      have Hst13 := Lib.hid hst13
      have Hq13 := Lib.hid hq13
      have Hr13 := Lib.hid hr13
      have Hsl13 := Lib.hid hsl13
      clear hp13 hst13 hq13 hr13 hsl13
      clear Hp12 Hst12 Hq12 Hr12 Hsl12
      go_wp2_with fail
      go_ret2
      refine ⟨.inr ⟨Hch.out, ⟨some ⟨g, 0, none⟩, some ⟨g2, 0, none⟩, some ⟨W5.heap.size, 0, none⟩, O, n.nodes.length + 1, n.nodes.length + 1, n.nodes.length + 1, oc, wo.heap.size, wo.heap.size + 1, w8.heap.size, w10.heap.size⟩, wo, ?_, Hlz.out, rfl, ?_⟩, Hlz.out.trans Hsl13.out⟩
      · exact ⟨Ck.base_ok Hch.out Hok.out hcap, ck_ints _ HGw.out, ck_ints _ HG2w.out, Hrow.out.shps, HOw.out, Nat.le_refl _, by simp, by simp; omega, by simp; omega, by show (Nt.words n).length ≤ n.nodes.length + 1; omega⟩
      · have hcl : (Nt.costs n).length = n.nodes.length + 1 := by rw [Nt.costs, List.length_cons, Nt.costsTo_len]
        have hso : (Nt.sorted n.nodes).length = n.nodes.length := (Nt.check_ok Hch.out).2.2.2.2.1
        refine ⟨Hsl13.out, ?_, Hp13.out, Hq13.out, Hr13.out, ?_, ?_, ?_⟩
        · have := Hst13.out
          unfold CkA.cells Ck.base Ck.start
          simp only [hwl, hcl, hso, List.length_cons, List.length_map]
          exact this
        · show ((List.replicate (n.nodes.length + 1) false).set 0 true).length = (Nt.words n).length
          rw [hwl]; simp
        · show (List.replicate (n.nodes.length + 1) false).length = (Nt.words n).length
          rw [hwl]; simp
        · show (List.replicate (n.nodes.length + 1) false).length = (Nt.words n).length
          rw [hwl]; simp
end Go.Proofs.YtnffjfjhbjeaiaaGreatDoor
/- Layer 18 (check): Whole; how far a state's numbers go: contracts. -/
namespace Go.Proofs.YtnffjfjhbjeaiaaGreatDoor
open Go.RowKit
set_option maxHeartbeats 4000000 in
set_option maxRecDepth 100000 in
theorem check_whole (a : CkA) (c : CkN) (W0 : World) (s : CkS) (W : World) (hM : CkM a c W0 s W) (hdn : s.done ≤ 1048576) :
    Calls Tryz.prog 45 #[.pointer (some ⟨a.p, 0, none⟩)] W fun e w' => e = .returned (.bool (Ck.whole c s)) ∧ Later W w' := by
  obtain ⟨-, -, -, y3, -, -, -, -, -, y9, -, y11, -⟩ := hM.cells14
  have HE := Lib.hid (show Ck.whole c s = (s.em && decide (s.done = c.order.length)) from rfl)
  clear hM
  generalize s.em = em at *
  cases em
  · go_enter Tryz.func45, Tryz.ntmps45
    go_wp2_with fail
    go_quiet (fail)
    go_wp2_with fail
    go_ret
    exact ⟨by rw [HE.out]; rfl, by first | exact Later.refl _ | exact (Later.refl _).drew | exact (Later.refl _).drewN _⟩
  · by_cases hd : s.done = c.order.length
    · have d1 : decide (s.done = c.order.length) = true := by simp [hd]
      have d2 : ((s.done : Int) == (c.order.length : Int)) = true := by simp [hd]
      rw [d1] at HE
      rw [hd] at y11
      clear d1 d2 hd
      go_enter Tryz.func45, Tryz.ntmps45
      go_wp2_with fail
      go_quiet (fail)
      go_wp2_with fail
      go_ret
      exact ⟨by rw [HE.out]; rfl, by first | exact Later.refl _ | exact (Later.refl _).drew | exact (Later.refl _).drewN _⟩
    · have d1 : decide (s.done = c.order.length) = false := by simp [hd]
      have d2 : ((s.done : Int) == (c.order.length : Int)) = false := by rw [beq_eq_false_iff_ne]; omega
      rw [d1] at HE
      go_enter Tryz.func45, Tryz.ntmps45
      go_wp2_with fail
      go_quiet (fail)
      go_wp2_with fail
      go_ret
      exact ⟨by rw [HE.out]; first | rfl | (apply ret_bool; simp [hd]), by first | exact Later.refl _ | exact (Later.refl _).drew | exact (Later.refl _).drewN _⟩
/-- A state's numbers behind k instructions. -/
structure Ck.Bd (s : CkS) (k : Nat) : Prop where
  done : s.done ≤ k
  n1 : -((k : Int) * 68719542272) ≤ s.now
  n2 : s.now ≤ (k : Int) * 68719542272
  p1 : -((k : Int) * 68719542272) ≤ s.peak
  p2 : s.peak ≤ (k : Int) * 68719542272
theorem Ck.wd_bd {a : CkA} {c : CkN} {W0 : World} (hS : a.Still c W0) (z : Int) : 0 ≤ Ck.wd c z ∧ Ck.wd c z ≤ 65536 := by
  have := Ck.sum_bd c hS.ok.word [z]
  simp [Ck.sumW] at this; exact this
theorem Ck.bd_do {a : CkA} {c : CkN} {W0 : World} (hS : a.Still c W0) {s : CkS} {k : Nat} (h : Ck.Bd s k) (kd id : Int) : Ck.Bd (Ck.do_ c s kd id).1 (k + 1) := by
  obtain ⟨h1, h2, h3, h4, h5⟩ := h
  have he : ((k + 1 : Nat) : Int) * 68719542272 = (k : Int) * 68719542272 + 68719542272 := by omega
  have triv : Ck.Bd s (k + 1) := ⟨by omega, by omega, by omega, by omega, by omega⟩
  unfold Ck.do_
  split
  · exact triv
  · rename_i hr
    split
    · exact triv
    · split
      · exact triv
      · have hid : (Cd.right (kd, id) = true) ∧ id < c.words.length := by
          rcases Bool.eq_false_or_eq_true (Cd.right (kd, id)) with h | h
          · exact ⟨h, by omega⟩
          · exact absurd (.inl h) hr
        obtain ⟨-, -, hi0, -⟩ := Cd.right_bd hid.1
        obtain ⟨n, rfl⟩ := Int.eq_ofNat_of_zero_le (show 0 ≤ id from hi0)
        have hm := Ck.more_bd hS s kd (n := n) (by omega)
        have hw := Ck.wd_bd hS n
        generalize Ck.more c s kd n = m at *
        have key : ∀ (s' : CkS), s'.done ≤ s.done + 1 → (s'.now = s.now + m ∨ s'.now = s.now + m - Ck.wd c n) → s'.peak = max s.peak (s.now + m) → Ck.Bd s' (k + 1) := fun s' q1 q2 q3 => by
          refine ⟨by omega, ?_, ?_, ?_, ?_⟩
          · rcases q2 with q2 | q2 <;> rw [q2] <;> omega
          · rcases q2 with q2 | q2 <;> rw [q2] <;> omega
          · rw [q3]; omega
          · rw [q3]; omega
        unfold Ck.act
        (repeat' split) <;> exact key _ (by simp) (by simp) rfl
end Go.Proofs.YtnffjfjhbjeaiaaGreatDoor
/- Layer 2 (safe): maxima, differences, shares, and what the reference computes: contracts. -/
namespace Go.Proofs.YtnffjfjhbjeaiaaGreatDoor
open Go.RowKit

set_option maxHeartbeats 400000 in
theorem safe_max (A : Option Addr) (c : Nat) (zs : List Int) (w : World) (hl : zs.length ≤ 9223372036854775807) (hI : Ints .i64 w A zs) :
    Calls Tryz.prog 47 #[.slice A zs.length c] w fun e w' => e = .returned (.int .i64 (Safe.max zs)) ∧ w = w' := by
  have HI := Lib.hid hI
  clear hI
  go_enter Tryz.func47, Tryz.ntmps47
  go_wp2_with fail
  go_loop [3, 5, 8] (fun m x i => ∃ k : Nat, k ≤ zs.length ∧ i = .int .i64 k ∧ m = .int .i64 (Safe.max (zs.take k))) (fun _ _ i => zs.length - (intOf i).toNat)
  case atStart => exact ⟨0, Nat.zero_le _, rfl, rfl⟩
  case round =>
    obtain ⟨k, hk, rfl, rfl⟩ := hrel
    by_cases hlt : k < zs.length
    · obtain ⟨b, off, rfl, hb, hc⟩ := HI.out k hlt
      have HS := Lib.hid (Safe.max_take_succ zs k hlt)
      generalize hm : Safe.max (zs.take k) = m
      rw [hm] at HS
      clear hm
      by_cases hmx : m < zs[k]
      · go_wp2_with fail
        go_round
        case rel => exact ⟨k + 1, by omega, by go_num, by first | (rw [HS.out, if_pos hmx]; done) | (rw [HS.out, if_pos hmx]; congr 1; omega)⟩
        case measure => simp [intOf]; omega
      · go_wp2_with fail
        go_round
        case rel => exact ⟨k + 1, by omega, by go_num, by first | (rw [HS.out, if_neg (by omega)]; done) | (rw [HS.out, if_neg (by omega)]; congr 1; omega)⟩
        case measure => simp [intOf]; omega
    · go_wp2_with fail
      go_ret
      exact ⟨ret_int (by rw [List.take_of_length_le (by omega)]), rfl⟩

def subS (a b : Int) : Int × Int := if Safe.ok a && Safe.ok b then (if b > a then (0, 17) else (a - b, 0)) else (0, 11)
def shareS (a b : Int) : Int × Int × Int := if Safe.ok a && Safe.ok b && b != 0 then (a / b, a % b, 0) else (0, 0, 11)




end Go.Proofs.YtnffjfjhbjeaiaaGreatDoor
