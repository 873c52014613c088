/- Lemmas for the statements of this seat: contracts of functions and the plain laws. -/
import Derived.ChangeSame
import Derived.Deep.Fields
import Derived.Deep.Slices
import Derived.KernelRfl
import Derived.Laws.Externs
import Derived.Lib.AppendIntMem
import Derived.Lib.AppendStr
import Derived.Lib.Builder
import Derived.Lib.ItoaLen
import Derived.Lib.OthersKept
import Derived.Lib.Strings
import Derived.Lib.UnsafeStr
import Derived.Lib.Walk
import Derived.Maps.AppendAt
import Derived.OpenShut
import Derived.ProofKit
import Derived.StillTailTactics
import Derived.Test.YtnffjfjhbjeaiaaGreatDoorChecked
import Derived.Test.YtnffjfjhbjeaiaaGreatDoorZ09
set_option linter.unusedVariables false
/- The plain law of layer 21: the document's lowering on the way: bounds. -/
namespace Go.Proofs.YtnffjfjhbjeaiaaGreatDoor
namespace Rt
def fwdDN (n : NetD) (keep : List Int) (k : Nat) : RtD := fwdD (Nt.sorted n.nodes) n.nodes.length (gT n keep) k ⟨[], []⟩
def midDN (n : NetD) (keep : List Int) : RtD := addD 5 0 (dropD (Nt.loss n.nodes) (addD 4 0 (fwdDN n keep (Nt.sorted n.nodes).length)))
def bwdDN (n : NetD) (keep : List Int) (k : Nat) : RtD := bwdD (Nt.insF n.nodes) (Nt.sorted n.nodes) (n.nodes.length + 1) n.nodes.length (dT n keep) k (midDN n keep)
theorem loweredD_eq (n : NetD) (keep : List Int) : loweredD n keep = bwdDN n keep (Nt.sorted n.nodes).length := rfl
theorem fwdDN_rel {n : NetD} (keep : List Int) {k : Nat} (hk : k ≤ (Nt.sorted n.nodes).length) : Rel (n.nodes.length + 1) (fwdN n keep k) (fwdDN n keep k) :=
  (Rel.fwd (L := n.nodes.length + 1) (N := n.nodes.length) (f := fT n keep) (g := gT n keep) (by omega) order_in (Kn.go_ok (Nt.insF n.nodes) n.nodes.length n.nodes.length).nodup (start_rel n) rfl (by omega) (fun k hk z z1 z2 _ => by unfold fT gT; rw [last_pend]) k hk).1
theorem midDN_rel {n : NetD} (h : Nt.check n = 0) (keep : List Int) : Rel (n.nodes.length + 1) (midN n keep) (midDN n keep) := by
  obtain ⟨_, _, _, _, hl, _, hlo, _⟩ := Nt.check_ok h
  obtain ⟨_, l1, l2⟩ := Nt.loss_mem hlo
  exact ((((fwdDN_rel keep (Nat.le_refl _)).add 4 0).drop (id := Nt.loss n.nodes) l1 (by omega)).add 5 0)
theorem bwdDN_rel {n : NetD} (h : Nt.check n = 0) (keep : List Int) {k : Nat} (hk : k ≤ (Nt.sorted n.nodes).length) : Rel (n.nodes.length + 1) (bwdN n keep k) (bwdDN n keep k) := by
  refine (Rel.bwd (net_ok h) (M := n.nodes.length + 1) (N := n.nodes.length) (b := bT n keep) (g := dT n keep) (by omega) order_in (midDN_rel h keep) (fun p p1 p2 z z1 z2 hz => ?_) k hk).1
  unfold bT dT
  rw [first_pend _ _ _ p1 p2 (has_user h z1 z2 (fun e => by
    subst e
    rcases hz with hz | ⟨u, hu⟩
    · have := (List.mem_filter.1 hz).2; simp at this
    · exact loss_none h u hu))]
theorem fwdDN_bd {n : NetD} (h : Nt.check n = 0) (h12 : n.nodes.length ≤ 12) (keep : List Int) {k : Nat} (hk : k ≤ (Nt.sorted n.nodes).length) : (fwdDN n keep k).code.length ≤ 200 ∧ (fwdDN n keep k).there.length ≤ 13 := by
  have hr := fwdDN_rel keep hk
  have h1 := fwdN_len h keep k hk
  have h2 := hr.there_le
  rw [hr.code] at h1
  obtain ⟨_, _, _, _, hl, _⟩ := Nt.check_ok h
  rw [hl] at hk
  have h3 : k * (n.nodes.length + 3) ≤ 12 * 15 := Nat.mul_le_mul (by omega) (by omega)
  omega
theorem midDN_bd {n : NetD} (h : Nt.check n = 0) (h12 : n.nodes.length ≤ 12) (keep : List Int) : (midDN n keep).code.length ≤ 1000 ∧ (midDN n keep).there.length ≤ 13 := by
  have hr := midDN_rel h keep
  have h1 := midN_len h keep
  have h2 := hr.there_le
  rw [hr.code] at h1
  have h3 : n.nodes.length * (n.nodes.length + 3) ≤ 12 * 15 := Nat.mul_le_mul (by omega) (by omega)
  omega
theorem bwdDN_bd {n : NetD} (h : Nt.check n = 0) (h12 : n.nodes.length ≤ 12) (keep : List Int) {k : Nat} (hk : k ≤ (Nt.sorted n.nodes).length) : (bwdDN n keep k).code.length ≤ 1000 ∧ (bwdDN n keep k).there.length ≤ 13 := by
  have hr := bwdDN_rel h keep hk
  have h1 := bwdN_short h h12 keep k hk
  have h2 := hr.there_le
  rw [hr.code] at h1
  omega
theorem sweepD_bd {g : Int → Bool} : ∀ (m : Nat) (x : RtD), (sweepD g m x).code.length ≤ x.code.length + m ∧ (sweepD g m x).there.length ≤ x.there.length ∧ x.code.length ≤ (sweepD g m x).code.length
  | 0, _ => ⟨Nat.le_refl _, Nat.le_refl _, Nat.le_refl _⟩
  | m + 1, x => by
    obtain ⟨h1, h2, h3⟩ := sweepD_bd (g := g) m x
    unfold sweepD
    split
    · have h4 : (Rf.without (sweepD g m x).there ((m : Int) + 1)).length ≤ (sweepD g m x).there.length := List.length_filter_le _ _
      unfold dropD
      simp only [List.length_append, List.length_singleton]
      omega
    · omega
theorem sweepD_step (g : Int → Bool) (m : Nat) (x : RtD) : sweepD g (m + 1) x = if (sweepD g m x).there.contains ((m : Int) + 1) && g ((m : Int) + 1) then dropD ((m : Int) + 1) (sweepD g m x) else sweepD g m x := rfl
theorem fwdDN_step (n : NetD) (keep : List Int) (k : Nat) : fwdDN n keep (k + 1) = sweepD (gT n keep k) n.nodes.length (compD 1 ((Nt.sorted n.nodes).getD k 0) (fwdDN n keep k)) := rfl
theorem bwdDN_step (n : NetD) (keep : List Int) (k : Nat) : bwdDN n keep (k + 1) = sweepD (dT n keep ((Nt.sorted n.nodes).length - k)) n.nodes.length (addD 6 ((Nt.sorted n.nodes).getD ((Nt.sorted n.nodes).length - 1 - k) 0) ((Nt.insF n.nodes ((Nt.sorted n.nodes).getD ((Nt.sorted n.nodes).length - 1 - k) 0)).foldl (fun x i => fetchD (Nt.insF n.nodes) (n.nodes.length + 1) i x) (bwdDN n keep k))) := rfl
/-- On the way of a round back. -/
theorem bwdDN_fold {n : NetD} (h : Nt.check n = 0) (h12 : n.nodes.length ≤ 12) (keep : List Int) {k : Nat} (hk : k < (Nt.sorted n.nodes).length) (j : Nat) :
    (((Nt.insF n.nodes ((Nt.sorted n.nodes).getD ((Nt.sorted n.nodes).length - 1 - k) 0)).take j).foldl (fun x i => fetchD (Nt.insF n.nodes) (n.nodes.length + 1) i x) (bwdDN n keep k)).code.length ≤ 1000 ∧
    (((Nt.insF n.nodes ((Nt.sorted n.nodes).getD ((Nt.sorted n.nodes).length - 1 - k) 0)).take j).foldl (fun x i => fetchD (Nt.insF n.nodes) (n.nodes.length + 1) i x) (bwdDN n keep k)).there.length ≤ 13 := by
  have hkl : (Nt.sorted n.nodes).length - 1 - k < (Nt.sorted n.nodes).length := by omega
  have e := get_at hkl
  have hu := order_in _ (List.getElem_mem hkl)
  have hb := (bwdDN_bd h h12 keep (k := k + 1) hk).1
  rw [bwdDN_step] at hb
  rw [e] at hb ⊢
  generalize (Nt.sorted n.nodes)[(Nt.sorted n.nodes).length - 1 - k] = u at *
  have hf := Rel.fetches (net_ok h) (n.nodes.length + 1) ((Nt.insF n.nodes u).take j) (bwdDN_rel h keep (k := k) (by omega)) (fun i hi => (net_ok h).rng u hu.1 hu.2 i (List.mem_of_mem_take hi))
  have h2 := hf.there_le
  have h3 := (sweepD_bd (g := dT n keep ((Nt.sorted n.nodes).length - k)) n.nodes.length (addD 6 u ((Nt.insF n.nodes u).foldl (fun x i => fetchD (Nt.insF n.nodes) (n.nodes.length + 1) i x) (bwdDN n keep k)))).2.2
  have h4 : (addD 6 u ((Nt.insF n.nodes u).foldl (fun x i => fetchD (Nt.insF n.nodes) (n.nodes.length + 1) i x) (bwdDN n keep k))).code.length = ((Nt.insF n.nodes u).foldl (fun x i => fetchD (Nt.insF n.nodes) (n.nodes.length + 1) i x) (bwdDN n keep k)).code.length + 1 := by unfold addD; simp
  have h5 := (take_monoD (I := Nt.insF n.nodes) (m := n.nodes.length + 1) (Nt.insF n.nodes u) j (bwdDN n keep k)).1
  omega
end Rt
end Go.Proofs.YtnffjfjhbjeaiaaGreatDoor
/- Layer 21 (roots): Lower: contract. -/
namespace Go.Proofs.YtnffjfjhbjeaiaaGreatDoor
open Go.RowKit
/-- What is kept, as a row of bools. -/
def kbTo (N : Nat) (l : List Int) : List Bool := l.foldl (fun kb id => kb.set id.toNat true) (List.replicate (N + 1) false)
theorem kbTo_snoc (N : Nat) (l : List Int) (id : Int) : kbTo N (l ++ [id]) = (kbTo N l).set id.toNat true := by simp [kbTo]
theorem kbTo_len (N : Nat) (l : List Int) : (kbTo N l).length = N + 1 := by
  have key : ∀ (l : List Int) (kb : List Bool), (l.foldl (fun kb id => kb.set id.toNat true) kb).length = kb.length := by
    intro l
    induction l with
    | nil => intro kb; rfl
    | cons x r ih => intro kb; rw [List.foldl_cons, ih, List.length_set]
  unfold kbTo
  rw [key]; simp
theorem kbTo_at (N : Nat) {l : List Int} (hl : ∀ z ∈ l, 1 ≤ z ∧ z ≤ N) {id : Nat} (hid : id ≤ N) : Ck.at_ (kbTo N l) id = l.contains (id : Int) := by
  have key : ∀ (l : List Int) (kb : List Bool), (∀ z ∈ l, 1 ≤ z ∧ z ≤ N) → kb.length = N + 1 → (l.foldl (fun kb id => kb.set id.toNat true) kb).getD id false = (kb.getD id false || l.contains (id : Int)) := by
    intro l
    induction l with
    | nil => intro kb _ _; simp
    | cons x r ih =>
      intro kb h hk
      have hx := h x (by simp)
      rw [List.foldl_cons, ih _ (fun z hz => h z (by simp [hz])) (by rw [List.length_set]; exact hk)]
      rw [List.getD_eq_getElem?_getD, List.getD_eq_getElem?_getD, List.getElem?_set]
      by_cases e : x.toNat = id
      · have e2 : (id : Int) = x := by omega
        rw [if_pos e, if_pos (show x.toNat < kb.length by omega), e2]
        simp
      · have e2 : ¬ (id : Int) = x := by omega
        simp [e, e2]
  unfold Ck.at_ kbTo
  rw [Int.toNat_natCast, key l _ hl (by simp)]
  have h0 : (List.replicate (N + 1) false).getD id false = false := by
    rw [List.getD_eq_getElem?_getD, List.getElem?_replicate]
    split <;> rfl
  rw [h0]
  rfl
theorem RtKb.of {n : NetD} {keep : List Int} (h : ∀ z ∈ keep, 1 ≤ z ∧ z ≤ n.nodes.length) : RtKb n keep (kbTo n.nodes.length keep) := fun id hid => kbTo_at n.nodes.length h hid
theorem RtM.set_kept {a : RtA} {n : NetD} {kb : List Bool} {W0 W : World} {s : RtS} (hS : a.Still n W0) (h : RtM a n kb W0 s W) (i : Nat) (b : Bool) : RtM a n (kb.set i b) W0 s (W.setCell ⟨a.g2, i, none⟩ (.bool b)) := by
  have i1 := hS.hp; have i2 := hS.h1; have i3 := hS.h2; have i4 := hS.h3; have i5 := hS.n12; have i6 := hS.n23; have i7 := hS.b2; have i8 := h.hB
  obtain ⟨v, hb, ho⟩ := h.box
  have hk := h.kept.set_ i (.bool b)
  rw [bools_set] at hk
  have hs2 := Below.heap_setCell W ⟨a.g2, i, none⟩ (.bool b)
  exact ⟨h.later.set (p := ⟨a.g2, i, none⟩) (by simp; omega) _, ⟨v, hb.far (p := ⟨a.g2, i, none⟩) (by simp; omega) _, ownsRow_heap ho fun g hg => hs2 g (by have := (ho.lt g hg).1; show g ≠ a.g2; omega)⟩, h.first.far (p := ⟨a.g2, i, none⟩) (by simp; omega) _, hk, h.pres.far (p := ⟨a.g2, i, none⟩) (by simp; omega) _, by rw [List.length_set]; exact h.lk, h.lp, by simpa using h.hB⟩
theorem Rt.bwdN_zero {n : NetD} (h : Nt.check n = 0) (keep : List Int) {k : Nat} (hk : k ≤ n.nodes.length) : Ck.at_ (bwdN n keep k).pres 0 = true := (bwdDN_rel h keep (k := k) (by rw [Rt.order_len h]; exact hk)).zero
/-- Are all of some numbers a net's? -/
def nodesB (N : Nat) (keep : List Int) : Bool := keep.all fun z => decide (1 ≤ z) && decide (z ≤ (N : Int))
theorem nodesB_in {N : Nat} {keep : List Int} : nodesB N keep = true ↔ ∀ z ∈ keep, 1 ≤ z ∧ z ≤ N := by simp [nodesB]
theorem nodesB_not {N : Nat} {keep : List Int} {k : Nat} (hk : k < keep.length) (h : ¬ (1 ≤ keep[k] ∧ keep[k] ≤ N)) : nodesB N keep = false := by
  cases hb : nodesB N keep
  · rfl
  · exact absurd (nodesB_in.1 hb _ (List.getElem_mem hk)) h
def LowerP (n : NetD) (keep : List Int) (W : World) (e : Ending) (w' : World) : Prop :=
  Later W w' ∧ ((Nt.check n ≠ 0 ∧ e = .returned (.tuple #[.slice none 0 0, .int .i64 (Nt.check n)])) ∨ (Nt.check n = 0 ∧ nodesB n.nodes.length keep = false ∧ e = .returned (.tuple #[.slice none 0 0, .int .i64 11])) ∨
    (Nt.check n = 0 ∧ nodesB n.nodes.length keep = true ∧ ∃ C cc, e = .returned (.tuple #[.slice C (Rt.lowered n keep).code.length cc, .int .i64 0]) ∧ Pairs w' C (Rt.lowered n keep).code))
set_option maxHeartbeats 16000000 in
set_option maxRecDepth 100000 in
theorem roots_lower (A N K : Option Addr) (c d ck : Nat) (n : NetD) (keep : List Int) (W : World) (hok : n.ok) (hR : NetR W A N n) (hd : n.nodes.length ≤ d) (h12 : n.nodes.length ≤ 12) (hK : Ints .i64 W K keep) (hkl : keep.length ≤ 9223372036854775807) :
    Calls Tryz.prog 8 #[.agg #[.slice A n.inn.length c, .slice N n.nodes.length d], .slice K keep.length ck] W (LowerP n keep W) := by
  have hk0 := Blk.new W 26 #[.slice A n.inn.length c, .slice N n.nodes.length d]
  have hl0 : Later W (W.alloc (.cells #[.slice A n.inn.length c, .slice N n.nodes.length d] 26)) := (Later.refl W).alloc _
  have HR := Lib.hid hR
  have Hok := Lib.hid hok
  have Hk0 := Lib.hid hk0
  have Hl0 := Lib.hid hl0
  have HK := Lib.hid hK
  clear hR hok hk0 hl0 hK
  go_enter Tryz.func8, Tryz.ntmps8
  go_wp2_with fail
  generalize W.alloc (.cells #[.slice A n.inn.length c, .slice N n.nodes.length d] 26) = W1 at *
  refine (roots_begin A N c d n W1 Hok.out (HR.out.below Hl0.out (Nat.le_refl _)) hd h12).mono ?_
  rintro e W2 ⟨⟨hch, rfl⟩ | ⟨hch, a, W0, hS, hl10, rfl, hM⟩, hl12⟩
  · have hne : (Nt.check n != 0) = true := by simp [hch]
    have hl2 := Hl0.out.trans hl12
    have Hch := Lib.hid hch
    have Hl2 := Lib.hid hl2
    clear hch hl2
    clear hl12
    go_wp2_with fail
    go_ret2
    exact ⟨Hl2.out, .inl ⟨Hch.out, rfl⟩⟩
  have hk2 := hl12.blk Hk0.out
  have hWp : W.heap.size < a.p := by have h1 := Hk0.out.lt; have h2 := Below.size hl10; have h3 := hS.hp; omega
  have hl2 := Hl0.out.trans hl12
  have hlW0 := Hl0.out.trans hl10
  have hloss := (Nt.loss_mem (Nt.check_ok hch).2.2.2.2.2.2.1).2
  obtain ⟨lu, hlu⟩ := Int.eq_ofNat_of_zero_le (show 0 ≤ Nt.loss n.nodes by omega)
  rw [hlu] at hloss
  have hln := Rt.fwdN_len hch
  have hsh := fun k h => Rt.bwdN_short hch h12 keep k h
  have hmm := Rt.midN_len hch keep
  have hso := Rt.order_len hch
  have hz := fun k (h : k ≤ n.nodes.length) => Rt.bwdN_zero hch keep h
  have Hch := Lib.hid hch
  have Hk2 := Lib.hid hk2
  have Hl2 := Lib.hid hl2
  have HlW0 := Lib.hid hlW0
  have HS := Lib.hid hS
  have HM := Lib.hid hM
  have Hlu := Lib.hid hlu
  have Hln := Lib.hid hln
  have Hsh := Lib.hid hsh
  have Hmm := Lib.hid hmm
  have Hso := Lib.hid hso
  have Hz := Lib.hid hz
  clear hch hk2 hl2 hlW0 hS hM hlu hln hsh hmm hso hz
  clear hl10 hl12 Hk0
  go_wp2_with fail
  go_loopw [9, 20] (fun _ t wx => ∃ k : Nat, k ≤ keep.length ∧ t = .int .i64 (k : Int) ∧ (∀ z ∈ keep.take k, 1 ≤ z ∧ z ≤ n.nodes.length) ∧ RtM a n (kbTo n.nodes.length (keep.take k)) W0 (Rt.start (n.nodes.length + 1)) wx ∧ Later W wx ∧ Blk wx W.heap.size 26 #[.slice A n.inn.length c, .slice N n.nodes.length d]) (fun _ t _ => keep.length - (intOf t).toNat)
  case atStart => exact ⟨0, Nat.zero_le _, rfl, by simp, HM.out, Hl2.out, Hk2.out⟩
  case round =>
    obtain ⟨k, hk, rfl, hall, hMk, hlk, hkk⟩ := hrel
    clear HM
    by_cases hlt : k < keep.length
    · obtain ⟨b, off, hKe, -, hc⟩ := HK.out.below hlk (Nat.le_refl _) k hlt
      rw [getD_at hlt] at hc
      have x1 := hkk.cell 1
      simp at x1
      have hnot := @nodesB_not n.nodes.length keep k hlt
      have HT := Lib.hid (List.take_succ_eq_append_getElem hlt)
      obtain ⟨v, -, -, -, -, -, -, -, -, c6, -, -⟩ := hMk.cells9
      have k0 : (k : Int) < keep.length := by omega
      subst hKe
      generalize keep[k] = z at *
      by_cases hin : 1 ≤ z ∧ z ≤ n.nodes.length
      · obtain ⟨u, hu⟩ := Int.eq_ofNat_of_zero_le (show 0 ≤ z by omega)
        have hun : u ≤ n.nodes.length := by omega
        have x0 := hMk.kept_at hun
        have f0 : wr.frozen? ⟨a.g2, u, none⟩ = false := hMk.kept.frozen u
        have hs2 := hMk.set_kept HS.out u true
        have hks := hkk.far (p := ⟨a.g2, u, none⟩) (by have := HS.out.h2; show W.heap.size ≠ a.g2; omega) (.bool true)
        have hls := hlk.set (p := ⟨a.g2, u, none⟩) (by have := HS.out.h2; show W.heap.size ≤ a.g2; omega) (.bool true)
        have hkb : kbTo n.nodes.length (keep.take (k + 1)) = (kbTo n.nodes.length (keep.take k)).set u true := by rw [HT.out, kbTo_snoc, hu, Int.toNat_natCast]
        rw [← hkb] at hs2
        have hal2 : ∀ y ∈ keep.take (k + 1), 1 ≤ y ∧ y ≤ n.nodes.length := fun y hy => by
          rw [HT.out] at hy
          rcases List.mem_append.1 hy with h | h
          · exact hall y h
          · simp at h; subst h; exact hin
        have e1 : decide (z < 1) = false := by simp; omega
        have e2 : decide ((n.nodes.length : Int) < z) = false := by simp; omega
        have e3 : ¬ z < 1 := by omega
        have e4 : ¬ (n.nodes.length : Int) < z := by omega
        subst hu
        have q1 : (0 : Int) ≤ (u : Int) := by omega
        have q2 : (u : Int) < ((n.nodes.length + 1 : Nat) : Int) := by omega
        have Hs2 := Lib.hid hs2
        have Hks := Lib.hid hks
        have Hls := Lib.hid hls
        have Hal2 := Lib.hid hal2
        clear hs2 hks hls hal2
        clear hMk hlk hkk hall hnot HT hkb hin
        go_wp2_with fail
        go_roundw
        case rel => exact ⟨k + 1, by omega, by go_num, Hal2.out, Hs2.out, Hls.out, Hks.out⟩
        case measure => simp [intOf]; omega
      · have HN := Lib.hid (hnot hin)
        have Hlk := Lib.hid hlk
        clear hlk
        clear hMk hkk hall hnot HT
        by_cases h1 : z < 1
        · have e1 : decide (z < 1) = true := by simp [h1]
          clear hin
          go_wp2_with fail
          go_ret2
          exact ⟨Hlk.out, .inr (.inl ⟨Hch.out, HN.out, rfl⟩)⟩
        · have e1 : decide (z < 1) = false := by simp; omega
          have e2 : decide ((n.nodes.length : Int) < z) = true := by simp; omega
          have e4 : (n.nodes.length : Int) < z := by omega
          clear hin
          go_wp2_with fail
          go_ret2
          exact ⟨Hlk.out, .inr (.inl ⟨Hch.out, HN.out, rfl⟩)⟩
    · obtain rfl : k = keep.length := by omega
      rw [List.take_length] at hall hMk
      have hkb := RtKb.of hall
      have hnb := nodesB_in.2 hall
      have hM0 : RtM a n (kbTo n.nodes.length keep) W0 (Rt.fwdN n keep 0) wr := hMk
      generalize kbTo n.nodes.length keep = kb at *
      have Hkb := Lib.hid hkb
      have Hnb := Lib.hid hnb
      have HM0 := Lib.hid hM0
      have Hlk := Lib.hid hlk
      clear hkb hnb hM0 hlk
      clear hMk hkk hall
      go_wp2_with fail
      refine (roots_forward a n keep kb W0 wr HS.out Hkb.out HM0.out).mono ?_
      rintro e w3 ⟨rfl, hM3, -⟩
      have hmul : n.nodes.length * (n.nodes.length + 3) ≤ 12 * 15 := Nat.mul_le_mul (by omega) (by omega)
      have hl3 := Hln.out keep n.nodes.length (by rw [Hso.out]; exact Nat.le_refl _)
      have HA := Lib.hid (roots_add a n kb W0 _ w3 HS.out hM3 4 0 (by omega))
      clear hM3
      go_wp2_with fail
      refine HA.out.mono ?_
      rintro e w4 ⟨rfl, hM4, -⟩
      obtain ⟨v4, -, -, -, -, -, -, -, c5, -, -, -⟩ := hM4.cells9
      rw [Hlu.out] at c5
      have hl4 : (Rt.add 4 0 (Rt.fwdN n keep n.nodes.length)).code.length ≤ 200 := by unfold Rt.add; simp; omega
      have HA2 := Lib.hid (roots_drop a n kb W0 _ w4 HS.out hM4 lu (by omega) (by omega))
      clear HA hM4
      go_wp2_with fail
      refine HA2.out.mono ?_
      rintro e w5 ⟨rfl, hM5, -⟩
      have hl5 : (Rt.drop (lu : Int) (Rt.add 4 0 (Rt.fwdN n keep n.nodes.length))).code.length ≤ 201 := by unfold Rt.drop; simp; omega
      have HA3 := Lib.hid (roots_add a n kb W0 _ w5 HS.out hM5 5 0 (by omega))
      clear HA2 hM5 c5
      go_wp2_with fail
      refine HA3.out.mono ?_
      rintro e w6 ⟨rfl, hM6, -⟩
      have hmid : Rt.add 5 0 (Rt.drop (lu : Int) (Rt.add 4 0 (Rt.fwdN n keep n.nodes.length))) = Rt.bwdN n keep 0 := by
        show _ = Rt.midN n keep
        unfold Rt.midN
        rw [Hlu.out, Hso.out]
      rw [hmid] at hM6
      have HA4 := Lib.hid (roots_backward a n keep kb W0 w6 HS.out Hkb.out hM6 Hz.out)
      clear HA3 hM6 hmid hl4 hl5 hl3 hmul
      go_wp2_with fail
      refine HA4.out.mono ?_
      rintro e w7 ⟨rfl, hM7, -⟩
      have hl7 := Hsh.out n.nodes.length (by rw [Hso.out]; exact Nat.le_refl _)
      have HA5 := Lib.hid (roots_many a n kb W0 _ w7 hM7 (by omega))
      have HLo : Hid (Rt.lowered n keep = Rt.bwdN n keep n.nodes.length) := Lib.hid (by rw [Rt.lowered_eq, Hso.out])
      generalize Rt.bwdN n keep n.nodes.length = s at *
      have HM7 := Lib.hid hM7
      clear hM7
      clear HA4
      go_wp2_with fail
      refine HA5.out.mono ?_
      rintro e w8 ⟨rfl, rfl⟩
      obtain ⟨v, -, ho, -, -, -, -, -, -, -, -, c8⟩ := HM7.out.cells9
      obtain ⟨C, cc, rfl⟩ := own_form ho
      have hP : Pairs w7 C s.code := by
        obtain ⟨A', c', e', _, hp⟩ := Pairs.of_own ho
        injection e' with e'; subst e'; exact hp
      have hfin := HlW0.out.trans HM7.out.later
      have HP := Lib.hid hP
      have Hfin := Lib.hid hfin
      clear hP hfin
      clear ho HA5
      go_wp2_with fail
      go_ret2
      refine ⟨Hfin.out, .inr (.inr ⟨Hch.out, Hnb.out, ?_⟩)⟩
      rw [HLo.out]
      exact ⟨C, cc, rfl, HP.out⟩
end Go.Proofs.YtnffjfjhbjeaiaaGreatDoor
/- The plain law of layer 21: two answers, reckoned. -/
namespace Go.Proofs.YtnffjfjhbjeaiaaGreatDoor
namespace Rt
/-- The awake test's net. -/
def an : NetD := ⟨[2], [⟨⟨1, 0, 0, 0, 0, 0, 0, []⟩, [0], []⟩, ⟨⟨12, 0, 2, 1, 0, 0, 0, []⟩, [1], []⟩]⟩
theorem an_check : Nt.check an = 0 := by decide
theorem an_one : (lowered an [1]).code = [(1, 1), (1, 2), (4, 0), (3, 2), (5, 0), (6, 2), (3, 1), (6, 1)] := by decide
theorem an_none : (lowered an []).code = [(1, 1), (1, 2), (3, 1), (4, 0), (3, 2), (5, 0), (2, 1), (6, 2), (3, 1), (6, 1)] := by decide
end Rt
end Go.Proofs.YtnffjfjhbjeaiaaGreatDoor
/- Layer 17 (code): two instructions held against each other. -/
namespace Go.Proofs.YtnffjfjhbjeaiaaGreatDoor
open Go.RowKit
theorem ins_stood : Tryz.prog.stoodInHeld 44 = false := by kernel_rfl
theorem ins_guard : Tryz.prog.eqGuardType Tryz.prog.depth 44 = false := by kernel_rfl
theorem run_neq_ins (a b c d : Int) (w : World) : (binOp .neq 44 (.agg #[.int .i64 a, .int .i64 b]) (.agg #[.int .i64 c, .int .i64 d])).run Tryz.prog w = .ok (.bool (!(a == c && b == d))) w := by
  have g1 := ins_stood
  have g2 := ins_guard
  cases h1 : (a == c) <;> cases h2 : (b == d)
  all_goals simp [go_sem, g1, h1, h2]
theorem run_eql_ins (a b c d : Int) (w : World) : (binOp .eql 44 (.agg #[.int .i64 a, .int .i64 b]) (.agg #[.int .i64 c, .int .i64 d])).run Tryz.prog w = .ok (.bool (a == c && b == d)) w := by
  have g1 := ins_stood
  have g2 := ins_guard
  cases h1 : (a == c) <;> cases h2 : (b == d)
  all_goals simp [go_sem, g1, h1, h2]
end Go.Proofs.YtnffjfjhbjeaiaaGreatDoor
/- Layer 17 (code): equality, names: contracts. -/
namespace Go.Proofs.YtnffjfjhbjeaiaaGreatDoor
open Go.RowKit

theorem take_eq_succ {α : Type} (ps qs : List α) (k : Nat) (h1 : k < ps.length) (h2 : k < qs.length) : ps.take k = qs.take k → ps[k] = qs[k] → ps.take (k + 1) = qs.take (k + 1) := by
  intro h h'
  rw [List.take_succ_eq_append_getElem h1, List.take_succ_eq_append_getElem h2, h, h']


/-- The bytes of a kind's name. -/
def nameOf (kind : Int) : List UInt8 :=
  if kind = 1 then [115, 97, 118, 101] else if kind = 2 then [97, 103, 97, 105, 110] else if kind = 3 then [102, 114, 101, 101]
  else if kind = 4 then [101, 109, 105, 116] else if kind = 5 then [115, 101, 101, 100] else if kind = 6 then [98, 97, 99, 107] else []
theorem nameOf_out {kind : Int} (h : kind < 1 ∨ 7 ≤ kind) : nameOf kind = [] := by
  unfold nameOf
  rw [if_neg (by omega), if_neg (by omega), if_neg (by omega), if_neg (by omega), if_neg (by omega), if_neg (by omega)]

theorem code_name (kind : Int) (w : World) :
    Calls Tryz.prog 54 #[.int .i64 kind] w fun e w' => e = .returned (.string ⟨(nameOf kind).toArray⟩) ∧ Below w.heap.size w w' := by
  by_cases h0 : kind < 0
  · have hfin := Lib.hid (nameOf_out (.inl (show kind < 1 by omega)))
    go_enter Tryz.func54, Tryz.ntmps54
    go_wp2_with fail
    go_ret
    exact ⟨by rw [hfin.out]; rfl, (Below.refl _ _).alloc (Nat.le_refl _) _⟩
  · by_cases h7 : 7 ≤ kind
    · have hfin := Lib.hid (nameOf_out (.inr h7))
      go_enter Tryz.func54, Tryz.ntmps54
      go_wp2_with fail
      go_ret
      exact ⟨by rw [hfin.out]; rfl, (Below.refl _ _).alloc (Nat.le_refl _) _⟩
    · rcases (show kind = 0 ∨ kind = 1 ∨ kind = 2 ∨ kind = 3 ∨ kind = 4 ∨ kind = 5 ∨ kind = 6 by omega) with rfl | rfl | rfl | rfl | rfl | rfl | rfl
      all_goals
        go_enter Tryz.func54, Tryz.ntmps54
        go_wp2_with fail
        go_ret
        exact ⟨rfl, (Below.refl _ _).alloc (Nat.le_refl _) _⟩
end Go.Proofs.YtnffjfjhbjeaiaaGreatDoor
/- A builder of the library's, in a block of the call's own: what its writing methods do. -/
namespace Go.Proofs.YtnffjfjhbjeaiaaGreatDoor
open Go.RowKit

abbrev IsB (B b : Nat) (bs : List Value) (w : World) : Prop := Lib.IsBuilder 109 5 B b bs w
abbrev Kept (b : Nat) (w w' : World) : Prop := Lib.OthersKept 5 (some b) w w'

theorem builder_size : (Tryz.prog.info? 109).map (·.size) = some 2 := by kernel_rfl
theorem builder_lies : liesAt Tryz.prog Tryz.prog.depth 109 (2 / Tryz.prog.cellsOf 109) 0 109 1 = true := by kernel_rfl

set_option maxHeartbeats 1000000 in
set_option maxRecDepth 100000 in
theorem copyCheck_used (b : Nat) (w : World) (h0 : w.cell? ⟨b, 0, none⟩ = some (.pointer (some ⟨b, 0, none⟩))) :
    Calls Tryz.prog 81 #[.pointer (some ⟨b, 0, none⟩)] w fun e w' => e = .returned (.tuple #[]) ∧ w = w' := by
  obtain ⟨j, hj, _⟩ := Option.map_eq_some_iff.1 builder_size
  go_enter Tryz.func81, Tryz.ntmps81
  go_wp2
  rw [Lib.run_neq_ptr_same w _ Tryz.underlying106 hj]
  go_wp2
  go_end0
  exact ⟨rfl, rfl⟩

set_option maxHeartbeats 1000000 in
set_option maxRecDepth 100000 in
theorem copyCheck_fresh (b : Nat) (w : World) (h0 : w.cell? ⟨b, 0, none⟩ = some (.pointer none)) (hsh : w.shape? b = some (109, 2)) (hfz : w.frozen? ⟨b, 0, none⟩ = false) :
    Calls Tryz.prog 81 #[.pointer (some ⟨b, 0, none⟩)] w fun e w' => e = .returned (.tuple #[]) ∧ w.setCell ⟨b, 0, none⟩ (.pointer (some ⟨b, 0, none⟩)) = w' := by
  obtain ⟨j, hj, hjs⟩ := Option.map_eq_some_iff.1 builder_size
  go_enter Tryz.func81, Tryz.ntmps81
  go_wp2
  rw [Lib.run_to_unsafe w ⟨b, 0, none⟩ Tryz.underlying106 Tryz.underlying161 hj (by rw [hjs]; decide) hsh (Nat.zero_lt_succ 1)]
  simp only [Result.andThen]
  rw [Oper.upon_value]
  go_wp2
  rw [run_callFunc_extern Tryz.func109 (by kernel_rfl) (by kernel_rfl) (by kernel_rfl) (e := Extern.AbiNoEscape.same) (by kernel_rfl)]
  rw [Lib.run_noEscape]
  simp only [Result.andThen]
  rw [Oper.upon_value]
  go_wp2
  rw [Lib.run_from_unsafe w ⟨b, 0, none⟩ Tryz.underlying161 Tryz.underlying106 hj hsh builder_lies]
  simp only [Result.andThen]
  rw [Oper.upon_value]
  go_wp2
  go_end0
  exact ⟨rfl, rfl⟩

def CheckPost (B b : Nat) (bs : List Value) (w : World) (e : Ending) (w' : World) : Prop :=
  e = .returned (.tuple #[]) ∧ Lib.BuilderAt 109 5 B b (.pointer (some ⟨b, 0, none⟩)) bs w' ∧ Below B w w' ∧ Kept b w w'

theorem copyCheck_any (B b : Nat) (bs : List Value) (w : World) (h : IsB B b bs w) :
    Calls Tryz.prog 81 #[.pointer (some ⟨b, 0, none⟩)] w (CheckPost B b bs w) := by
  rcases h with h | h
  · refine (copyCheck_fresh b w h.cell0 h.shape h.frozen0).mono ?_
    rintro e w' ⟨rfl, rfl⟩
    exact ⟨rfl, h.used _, (Below.refl B w).setCell (p := ⟨b, 0, none⟩) h.1 _, (Lib.OthersKept.refl _ _ _).setCell ⟨b, 0, none⟩ rfl _⟩
  · refine (copyCheck_used b w h.cell0).mono ?_
    rintro e w' ⟨rfl, rfl⟩
    exact ⟨rfl, h, Below.refl B _, Lib.OthersKept.refl _ _ _⟩

theorem ownsRow_kind {w : World} {B : Nat} {e : TypeId} {v : Value} {n : Nat} {xs : List Value} (h : w.ownsRow B e 1 v n xs) : ∀ g, v.ownBlock = some g → ∃ c fz, w.heap[g]? = some (.cells c e fz) := by
  intro g hg
  rcases h.2 with ⟨rfl, _⟩ | ⟨g', cap, cur, rfl, _, hgg, _⟩
  · simp [Value.ownBlock] at hg
  · simp [Value.ownBlock] at hg
    subst hg
    exact ⟨cur, _, hgg⟩

def WritePost (v : Value) (B b : Nat) (bs : List Value) (w : World) (e : Ending) (w' : World) : Prop :=
  e = .returned v ∧ IsB B b bs w' ∧ Below B w w' ∧ Kept b w w'

set_option maxHeartbeats 2000000 in
set_option maxRecDepth 100000 in
theorem builder_writeByte (B b : Nat) (bs : List Value) (c : Int) (w : World) (h : IsB B b bs w) (hlen : bs.length + 1 ≤ 140737488355328) (hBw : B ≤ w.heap.size) :
    Calls Tryz.prog 56 #[.pointer (some ⟨b, 0, none⟩), .int .u8 c] w (WritePost .nilIface B b (bs ++ [.int .u8 c]) w) := by
  obtain ⟨i0, hi, hz0, hz1, hz2⟩ := info_parts byte_info
  go_enter Tryz.func56, Tryz.ntmps56
  go_wp2_with fail
  refine (copyCheck_any B b bs _ h).mono ?_
  rintro e w1 ⟨rfl, h1, hb1, hk1⟩
  obtain ⟨hB, v, hbk, hown, hne⟩ := h1
  have c0 : w1.cell? ⟨b, 0, none⟩ = some (.pointer (some ⟨b, 0, none⟩)) := by rw [Lib.cell_of_heap hbk]; rfl
  have c1 : w1.cell? ⟨b, 1, none⟩ = some v := by rw [Lib.cell_of_heap hbk]; rfl
  go_wp2_with (at_builtin; refine wpList_append_own _ rfl _ _ 107 rfl B 5 i0 (.int .u8 0) 1 1 Tryz.underlying107 hi hz0 hz1 hz2 rfl (by decide) _ _ _ rfl (hown.alloc _) ⟨w1.heap.size, 0, none⟩ 1 1 [.int .u8 c] rfl rfl ?c1 ?c2 ?c3 ?c4 ?c5 ?_)
  case c1 => exact one_new _ _ _
  case c2 => intro u hu; simp at hu; subst hu; rfl
  case c3 => unfold maxLen; omega
  case c4 => omega
  case c5 => have := hb1.size; simp; omega
  intro v' w2 hown' hgrow _
  have hlt : b < w1.heap.size := lt_of_block hbk
  have hb2 : w2.heap[b]? = some (.cells #[.pointer (some ⟨b, 0, none⟩), v] 109 (0, 0)) := by
    rw [hgrow.block b (by simp; omega) (fun e => hne e.symm), Lib.alloc_old w1 _ b hlt]
    exact hbk
  have d0 : w2.cell? ⟨b, 0, none⟩ = some (.pointer (some ⟨b, 0, none⟩)) := by rw [Lib.cell_of_heap hb2]; rfl
  have d1 : w2.cell? ⟨b, 1, none⟩ = some v := by rw [Lib.cell_of_heap hb2]; rfl
  have f1 : w2.frozen? ⟨b, 1, none⟩ = false := Lib.frozen_of_heap hb2 1
  obtain ⟨g, cap, rfl⟩ : ∃ g cap, v' = .slice (some ⟨g, 0, none⟩) (bs.length + 1) cap := by
    rcases hown'.2 with ⟨_, h0⟩ | ⟨g, cap, cur, hv, _⟩
    · omega
    · exact ⟨g, cap, hv⟩
  go_wp2_with fail
  go_ret
  refine ⟨rfl, Or.inr ?_, ?_, ((hk1.alloc _).grown hgrow (ownsRow_kind (hown.alloc _))).setCell ⟨b, 1, none⟩ rfl _⟩
  · exact Lib.BuilderAt.put hB hb2 (bs' := bs ++ [.int .u8 c]) (by simpa using hown') (by decide)
  · exact ((hb1.alloc (by have := hb1.size; omega) _).grown hgrow (by have := hb1.size; simp; omega) (fun k hk => (hown.lt k hk).1)).setCell (p := ⟨b, 1, none⟩) hB _

set_option maxHeartbeats 2000000 in
set_option maxRecDepth 100000 in
theorem builder_writeString (B b : Nat) (bs : List Value) (s : ByteArray) (w : World) (h : IsB B b bs w) (hlen : bs.length + s.size ≤ 140737488355328) (hBw : B ≤ w.heap.size) :
    Calls Tryz.prog 55 #[.pointer (some ⟨b, 0, none⟩), .string s] w (WritePost (.tuple #[.int .i64 s.size, .nilIface]) B b (bs ++ Lib.strCells s) w) := by
  obtain ⟨i0, hi, hz0, hz1, hz2⟩ := info_parts byte_info
  go_enter Tryz.func55, Tryz.ntmps55
  go_wp2_with fail
  refine (copyCheck_any B b bs _ h).mono ?_
  rintro e w1 ⟨rfl, h1, hb1, hk1⟩
  obtain ⟨hB, v, hbk, hown, hne⟩ := h1
  have c0 : w1.cell? ⟨b, 0, none⟩ = some (.pointer (some ⟨b, 0, none⟩)) := by rw [Lib.cell_of_heap hbk]; rfl
  have c1 : w1.cell? ⟨b, 1, none⟩ = some v := by rw [Lib.cell_of_heap hbk]; rfl
  go_wp2_with (at_builtin; refine Lib.wpList_append_own_string _ rfl _ _ 107 9 rfl B 5 i0 Tryz.underlying107 Tryz.underlying9 hi hz0 hz1 hz2 _ _ _ rfl hown s rfl ?c3 ?c4 ?c5 ?_)
  case c3 => unfold maxLen; omega
  case c4 => omega
  case c5 => have := hb1.size; omega
  intro v' w2 hown' hgrow _
  have hlt : b < w1.heap.size := lt_of_block hbk
  have hb2 : w2.heap[b]? = some (.cells #[.pointer (some ⟨b, 0, none⟩), v] 109 (0, 0)) := by
    rw [hgrow.block b hlt (fun e => hne e.symm)]
    exact hbk
  have d0 : w2.cell? ⟨b, 0, none⟩ = some (.pointer (some ⟨b, 0, none⟩)) := by rw [Lib.cell_of_heap hb2]; rfl
  have d1 : w2.cell? ⟨b, 1, none⟩ = some v := by rw [Lib.cell_of_heap hb2]; rfl
  have f1 : w2.frozen? ⟨b, 1, none⟩ = false := Lib.frozen_of_heap hb2 1
  obtain ⟨ao, n', cap, rfl⟩ : ∃ ao n' cap, v' = .slice ao n' cap := by
    rcases hown'.2 with ⟨hv, _⟩ | ⟨g, cap, cur, hv, _⟩
    · exact ⟨_, _, _, hv⟩
    · exact ⟨_, _, _, hv⟩
  go_wp2_with fail
  go_ret2
  refine ⟨rfl, Or.inr ?_, ?_, (hk1.grown hgrow (ownsRow_kind hown)).setCell ⟨b, 1, none⟩ rfl _⟩
  · exact Lib.BuilderAt.put hB hb2 (bs' := bs ++ Lib.strCells s) (by simpa [Lib.strCells_length] using hown') (by decide)
  · exact (hb1.grown hgrow (by have := hb1.size; omega) (fun k hk => (hown.lt k hk).1)).setCell (p := ⟨b, 1, none⟩) hB _
end Go.Proofs.YtnffjfjhbjeaiaaGreatDoor
/- Layer 17 (code): the text of a code: contract. -/
namespace Go.Proofs.YtnffjfjhbjeaiaaGreatDoor
open Go.RowKit

theorem Below.grownNone {B : Nat} {w w' : World} (h : Below B w w') (hB : w.heap.size ≤ B) : w.grownBy w' none := ⟨h.os, h.tape, h.output, h.size, fun k hk _ => h.block k (by omega)⟩
theorem builderAt_below {T e : TypeId} {B b : Nat} {p : Value} {bs : List Value} {w w' : World} {B2 : Nat} (h : Lib.BuilderAt T e B b p bs w) (hb : Below B2 w w') (hB : w.heap.size ≤ B2) : Lib.BuilderAt T e B b p bs w' := by
  obtain ⟨h1, v, h2, h3, h4⟩ := h
  exact ⟨h1, v, (hb.block b (Nat.lt_of_lt_of_le (lt_of_block h2) hB)).trans h2, h3.kept (Below.grownNone hb hB) (by cases h : v.ownBlock <;> simp), h4⟩
theorem isB_below {B b : Nat} {bs : List Value} {w w' : World} {B2 : Nat} (h : IsB B b bs w) (hb : Below B2 w w') (hB : w.heap.size ≤ B2) : IsB B b bs w' := by
  rcases h with h | h
  · exact Or.inl (builderAt_below h hb hB)
  · exact Or.inr (builderAt_below h hb hB)
theorem isB_lt {B b : Nat} {bs : List Value} {w : World} (h : IsB B b bs w) : b < w.heap.size := by
  rcases h with h | h <;> exact h.lt
theorem Blk.kept {b g : Nat} {t : TypeId} {cs : Array Value} {w w' : World} (h : Blk w g t cs) (hk : Kept b w w') (hne : g ≠ b) (ht : t ≠ 5) : Blk w' g t cs :=
  hk g _ h (by simp [hne]) (by intro c fz e; injection e with _ e; exact ht e)

/-- An instruction's line. -/
def tailOf (id : Int) : List UInt8 := if id = 0 then [] else [32] ++ Lib.itoa id
def lineOf (p : Int × Int) : List UInt8 := if nameOf p.1 = [] then [] else nameOf p.1 ++ tailOf p.2 ++ [10]
def textOf (ps : List (Int × Int)) : List UInt8 := ps.flatMap lineOf
theorem textOf_take_succ (ps : List (Int × Int)) (k : Nat) (h : k < ps.length) : textOf (ps.take (k + 1)) = textOf (ps.take k) ++ lineOf ps[k] := by
  unfold textOf
  rw [List.take_succ_eq_append_getElem h, List.flatMap_append]; simp
theorem lineOf_none {p : Int × Int} (h : nameOf p.1 = []) : lineOf p = [] := by simp [lineOf, h]
theorem lineOf_some {p : Int × Int} (h : nameOf p.1 ≠ []) : lineOf p = nameOf p.1 ++ tailOf p.2 ++ [10] := by simp [lineOf, h]
theorem nameOf_le (k : Int) : (nameOf k).length ≤ 5 := by
  unfold nameOf
  repeat' split
  all_goals simp
theorem tailOf_le {id : Int} (h0 : -9223372036854775808 ≤ id) (h1 : id ≤ 9223372036854775807) : (tailOf id).length ≤ 22 := by
  unfold tailOf
  split
  · simp
  · have := Lib.itoa_length_le id h0 h1
    simp; omega
theorem lineOf_le {p : Int × Int} (h0 : -9223372036854775808 ≤ p.2) (h1 : p.2 ≤ 9223372036854775807) : (lineOf p).length ≤ 28 := by
  have a := nameOf_le p.1
  have b := tailOf_le h0 h1
  unfold lineOf
  split
  · simp
  · simp; omega
theorem textOf_le (ps : List (Int × Int)) (h : ∀ p ∈ ps, -9223372036854775808 ≤ p.2 ∧ p.2 ≤ 9223372036854775807) : (textOf ps).length ≤ 28 * ps.length := by
  induction ps with
  | nil => simp [textOf]
  | cons p r ih =>
    have h1 := lineOf_le (h p (by simp)).1 (h p (by simp)).2
    have h2 := ih (fun q hq => h q (by simp [hq]))
    simp [textOf] at h2 ⊢
    omega

def ItoaPost (id : Int) (w : World) (e : Ending) (w' : World) : Prop := e = .returned (.string ⟨(Lib.itoa id).toArray⟩) ∧ Below w.heap.size w w'
def ItoaFits (ps : List (Int × Int)) (w : World) : Prop :=
  ∀ p ∈ ps, ∀ w', Below w.heap.size w w' → Calls Tryz.prog 57 #[.int .i64 p.2] w' (ItoaPost p.2 w')

def textTo (ps : List (Int × Int)) (k : Nat) : List Value := Lib.byteCells (textOf (ps.take k))

set_option maxHeartbeats 1600000 in
theorem code_text (A : Option Addr) (c : Nat) (ps : List (Int × Int)) (w : World) (hl : ps.length ≤ 1000000) (hI : Pairs w A ps) (hbd : ∀ p ∈ ps, -9223372036854775808 ≤ p.2 ∧ p.2 ≤ 9223372036854775807) (hit : ItoaFits ps w) :
    Calls Tryz.prog 25 #[.slice A ps.length c] w fun e w' => e = .returned (.string ⟨(textOf ps).toArray⟩) ∧ Below w.heap.size w w' := by
  have HI := Lib.hid hI
  have HB := Lib.hid hbd
  have HT := Lib.hid hit
  clear hI hbd hit
  go_enter Tryz.func25, Tryz.ntmps25
  go_wp2_with fail
  go_loopw [5, 6, 9] (fun _ _ i wr => ∃ k : Nat, k ≤ ps.length ∧ i = .int .i64 k ∧ IsB w.heap.size w.heap.size (textTo ps k) wr ∧ Below w.heap.size w wr) (fun _ _ i _ => ps.length - (intOf i).toNat)
  case atStart => exact ⟨0, Nat.zero_le _, rfl, Lib.fresh_isBuilder _ _ w, (Below.refl _ _).alloc (Nat.le_refl _) _⟩
  case round =>
    obtain ⟨k, hk, rfl, hB, hbel⟩ := hrel
    by_cases hlt : k < ps.length
    · obtain ⟨b, off, rfl, hb, hc, hd⟩ := HI.out.below hbel (Nat.le_refl _) k hlt
      have hmem : ps[k] ∈ ps := List.getElem_mem hlt
      have hbd := HB.out _ hmem
      have hti := Lib.hid (HT.out _ hmem)
      have HS := Lib.hid (textOf_take_succ ps k hlt)
      have hlen : (textOf (ps.take k)).length ≤ 28 * k := by
        have := textOf_le (ps.take k) (fun p hp => HB.out p (List.mem_of_mem_take hp))
        rw [List.length_take] at this
        omega
      have hsz := isB_lt hB
      generalize hp : ps[k] = p at hc hd hbd hti HS hmem
      obtain ⟨kd, id⟩ := p
      dsimp only at hc hd hbd hti
      obtain ⟨hbd1, hbd2⟩ := hbd
      clear hp hmem
      have hB1 : IsB w.heap.size w.heap.size (textTo ps k) (wr.alloc (.cells #[.int .i64 kd, .int .i64 id] 44)) := isB_below hB ((Below.refl _ _).alloc (Nat.le_refl _) _) (Nat.le_refl _)
      have hblk := Blk.new wr 44 #[.int .i64 kd, .int .i64 id]
      have hbel1 := hbel.alloc hbel.size (Obj.cells #[Value.int IntKind.i64 kd, Value.int IntKind.i64 id] 44)
      clear hB
      go_wp2_with fail
      refine (code_name kd _).mono ?_
      rintro e w1 ⟨rfl, h1⟩
      have hsz1 := h1.size
      rw [World.size_alloc] at hsz1
      replace hB1 := isB_below hB1 h1 (Nat.le_refl _)
      replace hblk := hblk.below h1 (by simp)
      replace hbel1 := hbel1.trans (h1.mono (by simp; omega))
      clear h1
      by_cases hnm : nameOf kd = []
      · have HF := Lib.hid (lineOf_none (p := (kd, id)) hnm)
        rw [hnm]
        go_wp2_with fail
        go_roundw
        case rel => exact ⟨k + 1, by omega, by go_num, by unfold textTo; rw [HS.out, HF.out, List.append_nil]; exact hB1, hbel1⟩
        case measure => simp [intOf]; omega
      · have HF := Lib.hid (lineOf_some (p := (kd, id)) hnm)
        have hnl := nameOf_le kd
        have hne : (nameOf kd).isEmpty = false := by simp [hnm]
        have hns : (⟨(nameOf kd).toArray⟩ : ByteArray).size = (nameOf kd).length := by simp [ByteArray.size]
        generalize nameOf kd = nm at HF hnl hne hns
        have HNS := Lib.hid hns
        clear hnm hns
        have hBl : (textTo ps k).length ≤ 28 * k := by unfold textTo; rw [Lib.byteCells_length]; exact hlen
        clear hlen
        go_wp2_with fail
        refine (builder_writeString _ _ _ _ _ hB1 (by rw [HNS.out]; omega) (by omega)).mono ?_
        rintro e w2 ⟨rfl, hB2, hb2, hk2⟩
        have hsz2 := hb2.size
        replace hblk := hblk.kept hk2 (by omega) (by decide)
        replace hbel1 := hbel1.trans hb2
        clear hb2 hk2 hB1
        rw [Lib.strCells_toArray] at hB2
        have hB2l : (textTo ps k ++ Lib.byteCells nm).length ≤ 28 * k + 5 := by rw [List.length_append, Lib.byteCells_length]; omega
        have hc2 := hblk.cell 1
        simp at hc2
        by_cases hid : id = 0
        · subst hid
          have HTL := Lib.hid (show tailOf 0 = [] from rfl)
          go_wp2_with fail
          refine (builder_writeByte _ _ _ 10 _ hB2 (by omega) (by omega)).mono ?_
          rintro e w3 ⟨rfl, hB3, hb3, hk3⟩
          replace hbel1 := hbel1.trans hb3
          clear hb3 hk3 hB2
          go_wp2_with fail
          go_roundw
          case rel => exact ⟨k + 1, by omega, by go_num, by unfold textTo; rw [HS.out, HF.out, HTL.out, List.append_nil, Lib.byteCells_append, Lib.byteCells_append, ← List.append_assoc]; exact hB3, hbel1⟩
          case measure => simp [intOf]; omega
        · have hidb : (id != 0) = true := by simp [hid]
          have HTL := Lib.hid (show tailOf id = [32] ++ Lib.itoa id by simp [tailOf, hid])
          have hil := Lib.itoa_length_le id hbd1 hbd2
          clear hid
          go_wp2_with fail
          refine (builder_writeByte _ _ _ 32 _ hB2 (by omega) (by omega)).mono ?_
          rintro e w3 ⟨rfl, hB3, hb3, hk3⟩
          have hsz3 := hb3.size
          replace hblk := hblk.kept hk3 (by omega) (by decide)
          replace hbel1 := hbel1.trans hb3
          clear hb3 hk3 hB2
          have hc3 := hblk.cell 1
          simp at hc3
          have hB3l : (textTo ps k ++ Lib.byteCells nm ++ [Value.int .u8 32]).length ≤ 28 * k + 6 := by rw [List.length_append]; simp only [List.length_cons, List.length_nil]; omega
          clear hc2 hB2l
          go_wp2_with fail
          refine (hti.out _ hbel1).mono ?_
          rintro e w4 ⟨rfl, h4⟩
          have hsz4 := h4.size
          replace hB3 := isB_below hB3 h4 (Nat.le_refl _)
          replace hblk := hblk.below h4 hblk.lt
          replace hbel1 := hbel1.trans (h4.mono hbel1.size)
          clear h4 hc3
          have his : (⟨(Lib.itoa id).toArray⟩ : ByteArray).size = (Lib.itoa id).length := by simp [ByteArray.size]
          have HIS := Lib.hid his
          clear his
          generalize Lib.itoa id = it at HTL hil HIS
          go_wp2_with fail
          refine (builder_writeString _ _ _ _ _ hB3 (by rw [HIS.out]; omega) (by omega)).mono ?_
          rintro e w5 ⟨rfl, hB5, hb5, hk5⟩
          have hsz5 := hb5.size
          rw [Lib.strCells_toArray] at hB5
          replace hbel1 := hbel1.trans hb5
          have hB5l : (textTo ps k ++ Lib.byteCells nm ++ [Value.int .u8 32] ++ Lib.byteCells it).length ≤ 28 * k + 27 := by rw [List.length_append, Lib.byteCells_length]; omega
          clear hb5 hk5 hB3 hB3l
          go_wp2_with fail
          refine (builder_writeByte _ _ _ 10 _ hB5 (by omega) (by omega)).mono ?_
          rintro e w6 ⟨rfl, hB6, hb6, hk6⟩
          replace hbel1 := hbel1.trans hb6
          clear hb6 hk6 hB5
          go_wp2_with fail
          go_roundw
          case rel => exact ⟨k + 1, by omega, by go_num, by unfold textTo at hB6 ⊢; rw [HS.out, HF.out, HTL.out]; simp only [Lib.byteCells_append, List.append_assoc] at hB6 ⊢; exact hB6, hbel1⟩
          case measure => simp [intOf]; omega
    · obtain rfl : k = ps.length := by omega
      unfold textTo at hB
      rw [List.take_length] at hB
      generalize hte : textOf ps = t at hB
      have HTE := Lib.hid hte
      clear hte
      have HB2 := Lib.hid hB
      clear hB
      go_wp2_with fail
      refine (Tryz.Builder_String_any _ _ t _ HB2.out hbel.size).mono ?_
      rintro e w1 ⟨rfl, h1⟩
      go_wp2_with fail
      go_ret
      exact ⟨by rw [HTE.out]; rfl, hbel.trans h1⟩
end Go.Proofs.YtnffjfjhbjeaiaaGreatDoor
/- Layer 21's statements: the fixed answer. -/
namespace Go.Proofs.YtnffjfjhbjeaiaaGreatDoor
open Go.RowKit
theorem an_ok : Rt.an.ok := by
  refine ⟨by decide, by decide, fun v hv => ?_⟩
  simp [Rt.an] at hv
  rcases hv with rfl | rfl <;> exact ⟨by intro z hz; simp at hz; try omega, by decide, by decide, by decide, by simp, by intro z hz; simp at hz; try omega⟩
def anNodes (p1 p2 : Nat) : Array Value := #[.int .i64 1, .int .i64 0, .int .i64 0, .int .i64 0, .int .i64 0, .int .i64 0, .int .i64 0, .slice none 0 0, .slice (some ⟨p1, 0, none⟩) 1 1, .slice none 0 0, .int .i64 12, .int .i64 0, .int .i64 2, .int .i64 1, .int .i64 0, .int .i64 0, .int .i64 0, .slice none 0 0, .slice (some ⟨p2, 0, none⟩) 1 1, .slice none 0 0]
theorem an_net {W : World} {p0 p1 p2 g : Nat} (h0 : Blk W p0 3 #[.int .i64 2]) (h1 : Blk W p1 3 #[.int .i64 0]) (h2 : Blk W p2 3 #[.int .i64 1])
    (hg : Blk W g 67 (anNodes p1 p2)) :
    NetR W (some ⟨p0, 0, none⟩) (some ⟨g, 0, none⟩) Rt.an := by
  have one : ∀ {p : Nat} {x : Int}, Blk W p 3 #[.int .i64 x] → Ints .i64 W (some ⟨p, 0, none⟩) [x] := fun {p x} h => Ints.of_row fun j hj => by
    obtain rfl : j = 0 := by simpa using hj
    rw [h.cell]; rfl
  refine ⟨one h0, fun j hj => ?_⟩
  have : j = 0 ∨ j = 1 := by simp [Rt.an] at hj; omega
  rcases this with rfl | rfl
  · exact ⟨g, 0, none, 0, some ⟨p1, 0, none⟩, 1, none, 0, rfl, hg.lt, hg.cell 0, hg.cell 1, hg.cell 2, hg.cell 3, hg.cell 4, hg.cell 5, hg.cell 6, hg.cell 7, hg.cell 8, hg.cell 9, ⟨Ints.nil, by simp [Rt.an], by omega⟩, ⟨one h1, by simp [Rt.an], by omega⟩, Shps.nil, by simp [Rt.an], by omega⟩
  · exact ⟨g, 0, none, 0, some ⟨p2, 0, none⟩, 1, none, 0, rfl, hg.lt, hg.cell 10, hg.cell 11, hg.cell 12, hg.cell 13, hg.cell 14, hg.cell 15, hg.cell 16, hg.cell 17, hg.cell 18, hg.cell 19, ⟨Ints.nil, by simp [Rt.an], by omega⟩, ⟨one h2, by simp [Rt.an], by omega⟩, Shps.nil, by simp [Rt.an], by omega⟩
theorem itoa_few {ps : List (Int × Int)} (h : ∀ p ∈ ps, p.2 = 0 ∨ p.2 = 1 ∨ p.2 = 2) (w : World) : ItoaFits ps w := fun p hp w' _ => by
  have key : ∀ (i : Nat), i < 100 → Lib.decDigits i = Lib.itoa (i : Int) → Calls Tryz.prog 57 #[.int .i64 (i : Int)] w' (ItoaPost (i : Int) w') := fun i hi he =>
    (Tryz.strconv_Itoa_small i hi w').mono fun e w2 ⟨h1, h2⟩ => by subst h2; exact ⟨by rw [h1, he], Below.refl _ _⟩
  rcases h p hp with e | e | e <;> rw [e]
  · exact key 0 (by decide) (by simp [Lib.itoa, Lib.decDigits])
  · exact key 1 (by decide) (by simp [Lib.itoa, Lib.decDigits])
  · exact key 2 (by decide) (by simp [Lib.itoa, Lib.decDigits])
theorem an_text1 : textOf [(1, 1), (1, 2), (4, 0), (3, 2), (5, 0), (6, 2), (3, 1), (6, 1)] = [115, 97, 118, 101, 32, 49, 10, 115, 97, 118, 101, 32, 50, 10, 101, 109, 105, 116, 10, 102, 114, 101, 101, 32, 50, 10, 115, 101, 101, 100, 10, 98, 97, 99, 107, 32, 50, 10, 102, 114, 101, 101, 32, 49, 10, 98, 97, 99, 107, 32, 49, 10] := by
  simp [textOf, lineOf, nameOf, tailOf, Lib.itoa, Lib.decDigits]
theorem an_text2 : textOf [(1, 1), (1, 2), (3, 1), (4, 0), (3, 2), (5, 0), (2, 1), (6, 2), (3, 1), (6, 1)] = [115, 97, 118, 101, 32, 49, 10, 115, 97, 118, 101, 32, 50, 10, 102, 114, 101, 101, 32, 49, 10, 101, 109, 105, 116, 10, 102, 114, 101, 101, 32, 50, 10, 115, 101, 101, 100, 10, 97, 103, 97, 105, 110, 32, 49, 10, 98, 97, 99, 107, 32, 50, 10, 102, 114, 101, 101, 32, 49, 10, 98, 97, 99, 107, 32, 49, 10] := by
  simp [textOf, lineOf, nameOf, tailOf, Lib.itoa, Lib.decDigits]
abbrev anW (w : World) : World := ((((w.alloc (.cells #[.int .i64 2] 3)).alloc (.cells #[.int .i64 0] 3)).alloc (.cells #[.int .i64 1] 3)).alloc (.cells #[.int .i64 1, .int .i64 0, .int .i64 0, .int .i64 0, .int .i64 0, .int .i64 0, .int .i64 0, .slice none 0 0, .slice (some ⟨w.heap.size + 1, 0, none⟩) 1 1, .slice none 0 0, .int .i64 12, .int .i64 0, .int .i64 2, .int .i64 1, .int .i64 0, .int .i64 0, .int .i64 0, .slice none 0 0, .slice (some ⟨w.heap.size + 1 + 1, 0, none⟩) 1 1, .slice none 0 0] 67)).alloc (.cells #[.slice (some ⟨w.heap.size, 0, none⟩) 1 1, .slice (some ⟨w.heap.size + 1 + 1 + 1, 0, none⟩) 2 2] 26)
theorem anW_facts (w : World) : NetR (anW w) (some ⟨w.heap.size, 0, none⟩) (some ⟨w.heap.size + 1 + 1 + 1, 0, none⟩) Rt.an ∧ Blk (anW w) (w.heap.size + 1 + 1 + 1 + 1) 26 #[.slice (some ⟨w.heap.size, 0, none⟩) 1 1, .slice (some ⟨w.heap.size + 1 + 1 + 1, 0, none⟩) 2 2] ∧ Later w (anW w) := by
  have b0 := ((((Blk.new w 3 #[.int .i64 2]).alloc (.cells #[.int .i64 0] 3)).alloc (.cells #[.int .i64 1] 3)).alloc (.cells (anNodes (w.heap.size + 1) (w.heap.size + 1 + 1)) 67)).alloc (.cells #[.slice (some ⟨w.heap.size, 0, none⟩) 1 1, .slice (some ⟨w.heap.size + 1 + 1 + 1, 0, none⟩) 2 2] 26)
  have b1 := (((Blk.new (w.alloc (.cells #[.int .i64 2] 3)) 3 #[.int .i64 0]).alloc (.cells #[.int .i64 1] 3)).alloc (.cells (anNodes (w.heap.size + 1) (w.heap.size + 1 + 1)) 67)).alloc (.cells #[.slice (some ⟨w.heap.size, 0, none⟩) 1 1, .slice (some ⟨w.heap.size + 1 + 1 + 1, 0, none⟩) 2 2] 26)
  have b2 := ((Blk.new ((w.alloc (.cells #[.int .i64 2] 3)).alloc (.cells #[.int .i64 0] 3)) 3 #[.int .i64 1]).alloc (.cells (anNodes (w.heap.size + 1) (w.heap.size + 1 + 1)) 67)).alloc (.cells #[.slice (some ⟨w.heap.size, 0, none⟩) 1 1, .slice (some ⟨w.heap.size + 1 + 1 + 1, 0, none⟩) 2 2] 26)
  have b3 := (Blk.new (((w.alloc (.cells #[.int .i64 2] 3)).alloc (.cells #[.int .i64 0] 3)).alloc (.cells #[.int .i64 1] 3)) 67 (anNodes (w.heap.size + 1) (w.heap.size + 1 + 1))).alloc (.cells #[.slice (some ⟨w.heap.size, 0, none⟩) 1 1, .slice (some ⟨w.heap.size + 1 + 1 + 1, 0, none⟩) 2 2] 26)
  have b4 := Blk.new ((((w.alloc (.cells #[.int .i64 2] 3)).alloc (.cells #[.int .i64 0] 3)).alloc (.cells #[.int .i64 1] 3)).alloc (.cells (anNodes (w.heap.size + 1) (w.heap.size + 1 + 1)) 67)) 26 #[.slice (some ⟨w.heap.size, 0, none⟩) 1 1, .slice (some ⟨w.heap.size + 1 + 1 + 1, 0, none⟩) 2 2]
  simp only [World.size_alloc] at b1 b2 b3 b4
  exact ⟨an_net b0 b1 b2 b3, b4, ((((((Later.refl w).alloc _).alloc _).alloc _).alloc _).alloc _)⟩
theorem an_row {W : World} {p : Nat} {x : Int} (h : Blk W p 3 #[.int .i64 x]) : Ints .i64 W (some ⟨p, 0, none⟩) [x] := Ints.of_row fun j hj => by
  obtain rfl : j = 0 := by simpa using hj
  rw [h.cell]; rfl
set_option maxHeartbeats 8000000 in
set_option maxRecDepth 100000 in
theorem awake21 (w : World) : Calls Tryz.prog 7 #[] w fun e w' => e = .returned (.bool true) ∧ Below w.heap.size w w' := by
  obtain ⟨hR, hk, hl⟩ := anW_facts w
  have hgo : ∀ (W : World) (K : Option Addr) (m q : Nat) (keep : List Int), NetR W (some ⟨w.heap.size, 0, none⟩) (some ⟨w.heap.size + 1 + 1 + 1, 0, none⟩) Rt.an → Ints .i64 W K keep → keep.length = m → m ≤ 1 → Calls Tryz.prog 8 #[.agg #[.slice (some ⟨w.heap.size, 0, none⟩) 1 1, .slice (some ⟨w.heap.size + 1 + 1 + 1, 0, none⟩) 2 2], .slice K m q] W (LowerP Rt.an keep W) := fun W K m q keep h1 h2 h3 h4 => by
    subst h3
    exact roots_lower (some ⟨w.heap.size, 0, none⟩) (some ⟨w.heap.size + 1 + 1 + 1, 0, none⟩) K 1 2 q Rt.an keep W an_ok h1 (by decide) (by decide) h2 (by omega)
  have HR := Lib.hid hR
  have Hk := Lib.hid hk
  have Hl := Lib.hid hl
  have Hgo := Lib.hid hgo
  clear hR hk hl hgo
  go_enter Tryz.func7, Tryz.ntmps7
  go_upto_region 2 with fail
  change Code.wp _ _ _ _ (anW w)
  have x0 := Hk.out.cell 0
  have x1 := Hk.out.cell 1
  simp only [List.getElem?_toArray, List.getElem?_cons_succ, List.getElem?_cons_zero] at x0 x1
  generalize anW w = w1 at *
  generalize hq : w.heap.size = q at *
  have HQ := Lib.hid hq
  clear hq
  go_wp2_with fail
  have hl1 : Later w1 (w1.alloc (.cells #[.int .i64 1] 3)) := (Later.refl w1).alloc _
  refine (Hgo.out _ _ 1 1 [1] (HR.out.below hl1 (Nat.le_refl _)) (an_row (Blk.new w1 3 #[.int .i64 1])) rfl (by decide)).mono ?_
  rintro e w2 ⟨h12, ⟨h0, -⟩ | ⟨-, h0, -⟩ | ⟨-, -, C, cc, rfl, hP⟩⟩
  · exact absurd Rt.an_check h0
  · exact absurd h0 (by decide)
  rw [Rt.an_one] at hP ⊢
  have hl12 := hl1.trans h12
  have hk2 := hl12.blk Hk.out
  have hR2 := HR.out.below hl12 (Nat.le_refl _)
  have hl2 := Hl.out.trans hl12
  clear x0 x1
  have x0 := hk2.cell 0
  have x1 := hk2.cell 1
  simp only [List.getElem?_toArray, List.getElem?_cons_succ, List.getElem?_cons_zero] at x0 x1
  have Hk2 := Lib.hid hk2
  have HR2 := Lib.hid hR2
  have Hl2 := Lib.hid hl2
  have HP := Lib.hid hP
  clear hk2 hR2 hl2 hP
  clear Hk HR Hl hl1 h12 hl12
  go_wp2_with fail
  refine (Hgo.out _ none 0 0 [] HR2.out Ints.nil rfl (by decide)).mono ?_
  rintro e w3 ⟨h23, ⟨h0, -⟩ | ⟨-, h0, -⟩ | ⟨-, -, D, dc, rfl, hP2⟩⟩
  · exact absurd Rt.an_check h0
  · exact absurd h0 (by decide)
  rw [Rt.an_none] at hP2 ⊢
  have hk3 := h23.blk Hk2.out
  have hR3 := HR2.out.below h23 (Nat.le_refl _)
  have hl3 := Hl2.out.trans h23
  have hP3 := HP.out.below h23 (Nat.le_refl _)
  clear x0 x1
  have x0 := hk3.cell 0
  have x1 := hk3.cell 1
  simp only [List.getElem?_toArray, List.getElem?_cons_succ, List.getElem?_cons_zero] at x0 x1
  have Hk3 := Lib.hid hk3
  have HR3 := Lib.hid hR3
  have Hl3 := Lib.hid hl3
  have HP3 := Lib.hid hP3
  have HP2 := Lib.hid hP2
  clear hk3 hR3 hl3 hP3 hP2
  clear Hk2 HR2 Hl2 HP h23
  go_wp2_with fail
  have hl4 : Later w3 (w3.alloc (.cells #[.int .i64 3] 3)) := (Later.refl w3).alloc _
  refine (Hgo.out _ _ 1 1 [3] (HR3.out.below hl4 (Nat.le_refl _)) (an_row (Blk.new w3 3 #[.int .i64 3])) rfl (by decide)).mono ?_
  rintro e w4 ⟨h34, ⟨h0, -⟩ | ⟨-, -, rfl⟩ | ⟨-, h0, -⟩⟩
  · exact absurd Rt.an_check h0
  rotate_left
  · exact absurd h0 (by decide)
  have hl34 := hl4.trans h34
  have hl4 := Hl3.out.trans hl34
  have hPA := HP3.out.below hl34 (Nat.le_refl _)
  have hPB := HP2.out.below hl34 (Nat.le_refl _)
  have Hl4 := Lib.hid hl4
  have HPA := Lib.hid hPA
  have HPB := Lib.hid hPB
  clear hl4 hPA hPB
  clear Hk3 HR3 Hl3 HP3 HP2 h34 hl34 x0 x1
  go_wp2_with fail
  refine (code_text C cc [(1, 1), (1, 2), (4, 0), (3, 2), (5, 0), (6, 2), (3, 1), (6, 1)] w4 (by decide) HPA.out (by decide) (itoa_few (by decide) w4)).mono ?_
  rintro e w5 ⟨rfl, hb5⟩
  rw [an_text1]
  have hl5 := Hl4.out.call hb5
  have hPB5 := HPB.out.below (show Later w4 w5 from hb5) (Nat.le_refl _)
  have Hl5 := Lib.hid hl5
  have HPB5 := Lib.hid hPB5
  clear hl5 hPB5
  clear hb5 Hl4 HPA HPB
  go_wp2_with fail
  refine (code_text D dc [(1, 1), (1, 2), (3, 1), (4, 0), (3, 2), (5, 0), (2, 1), (6, 2), (3, 1), (6, 1)] w5 (by decide) HPB5.out (by decide) (itoa_few (by decide) w5)).mono ?_
  rintro e w6 ⟨rfl, hb6⟩
  rw [an_text2]
  have hl6 := Hl5.out.call hb6
  have Hl6 := Lib.hid hl6
  clear hl6
  clear hb6 Hl5
  go_wp2_with fail
  go_ret
  exact ⟨rfl, by first | exact Hl6.out | (rw [← HQ.out]; exact Hl6.out)⟩
end Go.Proofs.YtnffjfjhbjeaiaaGreatDoor
/- The statements of layer 21: is a case small? Are all of some numbers a net's? -/
namespace Go.Proofs.YtnffjfjhbjeaiaaGreatDoor
open Go.RowKit
def SmallR (n : NetD) (m : Nat) (w : World) (e : Ending) (w' : World) : Prop := ∃ b, e = .returned (.bool b) ∧ (b = true → n.nodes.length ≤ 12 ∧ m ≤ 300) ∧ Below w.heap.size w w'
set_option maxRecDepth 20000 in
set_option maxHeartbeats 8000000 in
theorem small_21 (A N Q : Option Addr) (c d q m : Nat) (n : NetD) (w : World) (hok : n.ok) (hR : NetR w A N n) (hml : m ≤ 1048576) :
    Calls Tryz.prog 6 #[.agg #[.slice A n.inn.length c, .slice N n.nodes.length d], .slice Q m q] w (SmallR n m w) := by
  have hnl := hok.2.1
  have hil := hok.1
  have hb0 : Below w.heap.size w (w.alloc (.cells #[.slice A n.inn.length c, .slice N n.nodes.length d] 26)) := (Below.refl _ _).alloc (Nat.le_refl _) _
  by_cases h12 : 12 < n.nodes.length
  · have e1 : decide ((12 : Int) < (n.nodes.length : Int)) = true := by simp; omega
    have e2 : (12 : Int) < (n.nodes.length : Int) := by omega
    have Hok := Lib.hid hok
    have HR := Lib.hid hR
    clear hok hR
    go_enter Tryz.func6, Tryz.ntmps6
    go_wp2_with fail
    go_ret
    exact ⟨_, rfl, by simp, hb0⟩
  have e1 : decide ((12 : Int) < (n.nodes.length : Int)) = false := by simp; omega
  have e2 : ¬ (12 : Int) < (n.nodes.length : Int) := by omega
  have Hok := Lib.hid hok
  have HR := Lib.hid hR
  clear hok hR
  go_enter Tryz.func6, Tryz.ntmps6
  go_wp2_with fail
  generalize w.alloc (.cells #[.slice A n.inn.length c, .slice N n.nodes.length d] 26) = w1 at *
  clear e1 e2
  go_loopw [5, 23] (fun t i wx => ∃ (k : Nat) (z : Int), k ≤ n.nodes.length ∧ i = .int .i64 (k : Int) ∧ t = .int .i64 z ∧ (m : Int) ≤ z ∧ z ≤ 2097152 + (k : Int) * 1099520000000 ∧ Below w.heap.size w wx) (fun _ i _ => n.nodes.length - (intOf i).toNat)
  case atStart => exact ⟨0, _, Nat.zero_le _, rfl, rfl, by omega, by omega, hb0⟩
  case round =>
    obtain ⟨k, z, hk, rfl, rfl, hz1, hz2, hbw⟩ := hrel
    clear hb0
    have hkb : (k : Int) * 1099520000000 ≤ 12 * 1099520000000 := Int.mul_le_mul_of_nonneg_right (by omega) (by omega)
    by_cases hlt : k < n.nodes.length
    · obtain ⟨b, off, S, sc, J, ic, Q, qc, rfl, hNA, -, -, -⟩ := HR.out.2.at_ hlt
      have hnok := Hok.out.2.2 _ (List.getElem_mem hlt)
      have hsl := hnok.2.1
      have hll := hnok.2.2.1
      have hpl := hnok.2.2.2.1
      have hps := hnok.2.2.2.2.1
      have hQi := hNA.2.2.2
      generalize n.nodes[k] = v at *
      obtain ⟨⟨y0, y1, y2, y3, y4, y5, y6, y7, y8, y9⟩, -⟩ := hNA.below hbw
      have hbn := hbw.alloc hbw.size (.cells #[.int .i64 v.op.kind, .int .i64 v.op.k, .int .i64 v.op.width, .int .i64 v.op.step, .int .i64 v.op.side, .int .i64 v.op.frm, .int .i64 v.op.to, .slice S v.op.s.length sc, .slice J v.ins.length ic, .slice Q v.p.length qc] 67)
      have hz9 : z ≤ 13194240000000 + 2097152 := by omega
      have HZ2 := Lib.hid hz2
      clear hz2 hkb
      have HNA := Lib.hid hNA
      have Hnok := Lib.hid hnok
      have HQi := Lib.hid hQi
      have Hps := Lib.hid hps
      clear hNA hnok hQi hps
      go_wp2_with fail
      clear y0 y1 y2 y3 y4 y5 y6 y7 y8 y9
      generalize wr.alloc (.cells #[.int .i64 v.op.kind, .int .i64 v.op.k, .int .i64 v.op.width, .int .i64 v.op.step, .int .i64 v.op.side, .int .i64 v.op.frm, .int .i64 v.op.to, .slice S v.op.s.length sc, .slice J v.ins.length ic, .slice Q v.p.length qc] 67) = w2 at *
      go_loop [5, 41] (fun t i => ∃ (mm : Nat) (z2 : Int), mm ≤ v.p.length ∧ i = .int .i64 (mm : Int) ∧ t = .int .i64 z2 ∧ z + 3 ≤ z2 ∧ z2 ≤ z + 3 + 2097152 + (mm : Int) * 1048577) (fun _ i => v.p.length - (intOf i).toNat)
      case atStart => exact ⟨0, _, Nat.zero_le _, rfl, rfl, by omega, by omega⟩
      case round =>
        obtain ⟨mm, z2, hm, rfl, rfl, hz3, hz4⟩ := hrel
        have hmb : (mm : Int) * 1048577 ≤ 1048576 * 1048577 := Int.mul_le_mul_of_nonneg_right (by omega) (by omega)
        by_cases hlm : mm < v.p.length
        · obtain ⟨b5, o5, Ss, cs, rfl, -, hcs, -⟩ := HQi.out mm hlm
          have hcs2 := cell_below hbn hcs
          have hsl2 := Hps.out _ (List.getElem_mem hlm)
          generalize v.p[mm] = s at *
          have hz5 : z2 + (1 + (s.length : Int)) ≤ z + 3 + 2097152 + ((mm : Int) + 1) * 1048577 := by rw [Int.add_mul]; omega
          have hz6 : z2 ≤ 15000000000000 := by omega
          clear hcs hz4 hmb
          have Hz5 := Lib.hid hz5
          clear hz5
          go_wp2_with fail
          go_round
          case rel => exact ⟨mm + 1, _, by omega, by go_num, rfl, by omega, Hz5.out⟩
          case measure => simp [intOf]; omega
        · obtain rfl : mm = v.p.length := by omega
          have hz7 : z2 ≤ 2097152 + (((k + 1 : Nat) : Int)) * 1099520000000 := by have := HZ2.out; rw [Int.natCast_succ, Int.add_mul]; omega
          have hz8 : (m : Int) ≤ z2 := by omega
          clear hmb hz4
          have Hz7 := Lib.hid hz7
          clear hz7
          go_wp2_with fail
          go_roundw
          case rel => exact ⟨k + 1, _, by omega, by go_num, rfl, hz8, Hz7.out, hbn⟩
          case measure => simp [intOf]; omega
    · obtain rfl : k = n.nodes.length := by omega
      clear hz2 hkb
      go_wp2_with fail
      go_ret
      refine ⟨_, rfl, fun h => ?_, hbw⟩
      have h : z ≤ 300 := by simpa using h
      omega
set_option maxRecDepth 20000 in
set_option maxHeartbeats 8000000 in
theorem nodes_21 (A N K : Option Addr) (c d ck : Nat) (n : NetD) (keep : List Int) (w : World) (hK : Ints .i64 w K keep) (hkl : keep.length ≤ 9223372036854775807) :
    Calls Tryz.prog 11 #[.agg #[.slice A n.inn.length c, .slice N n.nodes.length d], .slice K keep.length ck] w fun e w' => e = .returned (.bool (nodesB n.nodes.length keep)) ∧ Below w.heap.size w w' := by
  have hk1 := Blk.new w 26 #[.slice A n.inn.length c, .slice N n.nodes.length d]
  have hl1 : Later w (w.alloc (.cells #[.slice A n.inn.length c, .slice N n.nodes.length d] 26)) := (Later.refl w).alloc _
  have hK1 := hK.below hl1 (Nat.le_refl _)
  have x1 := hk1.cell 1
  simp at x1
  clear hk1
  have x1 := (Blk.new w 26 #[.slice A n.inn.length c, .slice N n.nodes.length d]).cell 1
  simp only [List.getElem?_toArray, List.getElem?_cons_succ, List.getElem?_cons_zero] at x1
  have HK1 := Lib.hid hK1
  have Hl1 := Lib.hid hl1
  clear hK1 hl1
  clear hK
  go_enter Tryz.func11, Tryz.ntmps11
  go_wp2_with fail
  generalize w.alloc (.cells #[.slice A n.inn.length c, .slice N n.nodes.length d] 26) = w1 at *
  go_loop [6, 9] (fun _ t => ∃ k : Nat, k ≤ keep.length ∧ t = .int .i64 (k : Int) ∧ ∀ z ∈ keep.take k, 1 ≤ z ∧ z ≤ n.nodes.length) (fun _ t => keep.length - (intOf t).toNat)
  case atStart => exact ⟨0, Nat.zero_le _, rfl, by simp⟩
  case round =>
    obtain ⟨k, hk, rfl, hall⟩ := hrel
    by_cases hlt : k < keep.length
    · obtain ⟨b, off, hKe, -, hc⟩ := HK1.out k hlt
      rw [getD_at hlt] at hc
      have hnot := @nodesB_not n.nodes.length keep k hlt
      have HT := Lib.hid (List.take_succ_eq_append_getElem hlt)
      have k0 : (k : Int) < keep.length := by omega
      subst hKe
      generalize keep[k] = z at *
      by_cases hin : 1 ≤ z ∧ z ≤ n.nodes.length
      · have hal2 : ∀ y ∈ keep.take (k + 1), 1 ≤ y ∧ y ≤ n.nodes.length := fun y hy => by
          rw [HT.out] at hy
          rcases List.mem_append.1 hy with h | h
          · exact hall y h
          · simp at h; subst h; exact hin
        have e3 : ¬ z < 1 := by omega
        have e4 : ¬ (n.nodes.length : Int) < z := by omega
        have Hal2 := Lib.hid hal2
        clear hal2
        clear hall hnot HT hin
        go_wp2_with fail
        go_round
        case rel => exact ⟨k + 1, by omega, by go_num, Hal2.out⟩
        case measure => simp [intOf]; omega
      · have HN := Lib.hid (hnot hin)
        clear hall hnot HT
        by_cases h1 : z < 1
        · clear hin
          go_wp2_with fail
          go_ret
          exact ⟨by rw [HN.out]; rfl, Hl1.out⟩
        · have e4 : (n.nodes.length : Int) < z := by omega
          clear hin
          go_wp2_with fail
          go_ret
          exact ⟨by rw [HN.out]; rfl, Hl1.out⟩
    · obtain rfl : k = keep.length := by omega
      rw [List.take_length] at hall
      have HN := Lib.hid (nodesB_in.2 hall)
      clear hall
      go_wp2_with fail
      go_ret
      exact ⟨by rw [HN.out]; rfl, Hl1.out⟩
end Go.Proofs.YtnffjfjhbjeaiaaGreatDoor
/- Arguments that came in, opened: slices of structs. After the guide's own lemma on slices of structs. No program is named here. -/
namespace Go.Proofs.YtnffjfjhbjeaiaaGreatDoor
open Go.ChangeShapes Go.WideShapes Go.Deep Go.RowKit
section
variable {H : Type} {enc : TypeId × Value → H} {P : Program} {w : World} {base : Nat} {spare : Nat → Bool} {held : Bool}
theorem open_slice_fields {t e : TypeId} {fs : Array Field} {fuel : Nat} {cs : List Value} {x : DataW H × List MemPlace} (ht : P.underlying t = some (.slice e)) (he : P.underlying e = some (.struct fs))
    (hone : oneCellFields P fs = true) (hC : P.cellsOf e = fs.size) (h : DataW.trod enc P w base spare held fuel t cs = some x) :
    (cs = [.slice none 0 0] ∧ x = (.nil, [])) ∨
    ∃ (a : Addr) (len cap m : Nat) (D : Nat → DataW H) (Pl : Nat → List MemPlace), cs = [.slice (some a) len cap] ∧ base ≤ a.block ∧ len ≤ cap ∧ cap ≤ maxLen ∧ m = (if spare a.block then cap else len) ∧
      x = (.slice ((List.range len).map D) ((List.range (m - len)).map fun j => D (len + j)), MemPlace.row a (m * fs.size) ++ (List.range m).flatMap Pl) ∧
      ∀ i, i < m → ∃ (ys : List (DataW H × List MemPlace)) (n : Nat), D i = .agg (ys.map (·.1)) ∧ Pl i = ys.flatMap (·.2) ∧ ys.length = fs.size ∧
        ∀ (j : Nat) (f : Field), fs[j]? = some f → ∃ (v : Value) (y : DataW H × List MemPlace), w.cell? (a.add (i * fs.size + j)) = some v ∧ ys[j]? = some y ∧ DataW.trod enc P w base spare held n f.type [v] = some y := by
  rcases open_slice ht h with h0 | ⟨a, len, cap, m, n, D, Pl, hcs, hb, hl, hm, hmm, hx, hi⟩
  · exact .inl h0
  · refine .inr ⟨a, len, cap, m, D, Pl, hcs, hb, hl, hm, hmm, by rw [hC] at hx; exact hx, fun i him => ?_⟩
    obtain ⟨cs', hc, ht'⟩ := hi i him
    rw [hC] at hc
    obtain ⟨ys, n', hn', hy, hlen, hyl, hf⟩ := DataW.trod_struct he ht'
    obtain ⟨_, hcl, hat⟩ := World.cells?_some hc
    simp only [Prod.mk.injEq] at hy
    refine ⟨ys, n', hy.1, hy.2, hyl, fun j f hj => ?_⟩
    obtain ⟨ho, hk⟩ := hone_of hone j f hj
    have hjl : j < fs.size := (Array.getElem?_eq_some_iff.1 hj).1
    have hcell := hat j hjl
    have hv : cs'[j]? = some (cs'[j]'(by omega)) := List.getElem?_eq_getElem (by omega)
    have h1 := hf j f hj
    rw [ho, hk] at h1
    have hone' : (cs'.drop j).take 1 = [cs'[j]'(by omega)] := by
      rw [List.drop_eq_getElem_cons (by omega)]
      rfl
    rw [hone'] at h1
    have hys : ys[j]? = some (ys[j]'(by omega)) := List.getElem?_eq_getElem (by omega)
    refine ⟨_, _, ?_, hys, h1.trans hys⟩
    rw [← Go.Deep.add_add, hcell, hv]
end

/-- The address of a row whose first cell is there is a plain one. -/
theorem plain_row {w : World} {a : Addr} {v : Value} (h : w.cell? (a.add 0) = some v) : ∃ b off, a = ⟨b, off, none⟩ := by
  obtain ⟨b, off, spot⟩ := a
  have hs : spot = none := by simpa [Addr.add] using World.cell?_spot h
  subst hs
  exact ⟨b, off, rfl⟩
theorem add_plain' (b off j : Nat) : (⟨b, off, none⟩ : Addr).add j = ⟨b, off + j, none⟩ := by
  unfold Addr.add; split <;> simp_all
section
variable {H : Type} {enc : TypeId × Value → H} {P : Program} {w : World} {base : Nat} {spare : Nat → Bool} {held : Bool}
/-- A slice of integers. -/
theorem ints_open {t e : TypeId} {k : IntKind} {fuel : Nat} {v : Value} {x : DataW H × List MemPlace} (ht : P.underlying t = some (.slice e)) (he : P.underlying e = some (.int k)) (hc : P.cellsOf e = 1) (h : DataW.trod enc P w base spare held fuel t [v] = some x) :
    ∃ A cap zs, v = .slice A zs.length cap ∧ zs.length ≤ 9223372036854775807 ∧ zs.length ≤ cap ∧ Ints k w A zs ∧ ∀ n ∈ zs, (Lit.int k n).wf = true := by
  rcases open_ints ht he hc h with ⟨hcs, _⟩ | ⟨a, len, cap, zs, hcs, _, hl, hm, hz, _, hcell, hwz⟩
  · simp at hcs; subst hcs
    exact ⟨none, 0, [], rfl, by simp, by simp, Ints.nil, by simp⟩
  · simp at hcs; subst hcs
    have hlz : len ≤ zs.length := by rw [hz]; split <;> omega
    have hll : (zs.take len).length = len := by rw [List.length_take]; omega
    refine ⟨some a, cap, zs.take len, by rw [hll], by rw [hll]; unfold maxLen at hm; omega, by omega, fun j hj => ?_, fun n hn => hwz n (List.mem_of_mem_take hn)⟩
    have hj' : j < len := by omega
    obtain ⟨b, off, rfl⟩ := plain_row (w := w) (a := a) (v := .int k (zs.getD 0 0)) (hcell 0 (by omega))
    have hc2 := hcell j (by omega)
    rw [add_plain'] at hc2
    refine ⟨b, off, rfl, World.block_lt_of_cell? _ _ hc2, ?_⟩
    rw [hc2]
    have e : (zs.take len).getD j 0 = zs.getD j 0 := by simp [List.getD_eq_getElem?_getD, hj']
    rw [e]
end
end Go.Proofs.YtnffjfjhbjeaiaaGreatDoor
/- The reference of layer 18: Has, with, without: contracts. -/
namespace Go.Proofs.YtnffjfjhbjeaiaaGreatDoor
open Go.RowKit
theorem run_append_nils {P : Program} (w : World) (t ty e : TypeId) (i : TypeInfo) (ht : P.underlying t = some (.slice e)) (hi : P.info? e = some i) (c : Nat) :
    (Builtin.append_ #[t, t] ty #[.slice none 0 0, .slice none 0 c]).run P w = .ok (.slice none 0 0) w := by
  simp [Builtin.append_, run_underlying ht, sizeOf, typeInfo, hi, Builtin.lenOf, Builtin.firstCells]
theorem ints_src {w : World} {A : Option Addr} {zs : List Int} (h : Ints .i64 w A zs) : (A = none ∧ zs = []) ∨ ∃ ad, A = some ad ∧ ∀ (j : Nat) (u : Value), (zs.map (Value.int .i64))[j]? = some u → w.cell? (ad.add j) = some u := by
  rcases A with _ | ad
  · left
    refine ⟨rfl, ?_⟩
    rcases zs with _ | ⟨s, r⟩
    · rfl
    · obtain ⟨_, _, e, _⟩ := h 0 (by simp)
      cases e
  · right
    refine ⟨ad, rfl, fun j u hu => ?_⟩
    have hj : j < zs.length := by
      rcases Nat.lt_or_ge j zs.length with h | h
      · exact h
      · rw [List.getElem?_eq_none (by simpa using h)] at hu; cases hu
    obtain ⟨b, off, e, _, hc⟩ := h j hj
    injection e with e
    subst e
    rw [add_plain', hc]
    simp [hj] at hu ⊢
    exact hu
/-- append of a row of ints onto nothing. -/
theorem wpList_append_ints {P : Program} {ops : Array Oper} {rest : List Oper} {o : Oper} {a : Act} {Q : Exit → Act → World → Prop} {w : World} (hgd : o.guard = none) (s x : Operand) (t : TypeId)
    (ho : o.op = .call { callee := .builtin .append, args := #[s, x], argTypes := #[t, t] })
    (base : Nat) (e : TypeId) (i : TypeInfo) (ht : P.underlying t = some (.slice e)) (hi : P.info? e = some i) (hz : i.zero = some (.int .i64 0)) (hsize : i.size = 1) (hby : i.bytes = 8)
    (hs : a.eval s = .slice none 0 0) (X : Option Addr) (f : Nat) (l : List Int) (hx : a.eval x = .slice X l.length f) (hX : Ints .i64 w X l) (hbase : base ≤ w.heap.size) (hn : l.length ≤ 1000000)
    (h : ∀ v' w', w'.ownsRow base e 1 v' l.length (l.map (Value.int .i64)) → Below w.heap.size w w' → wpList P ops Q rest (a.put o.dst v') w') :
    wpList P ops Q (o :: rest) a w := by
  rcases ints_src hX with ⟨rfl, rfl⟩ | ⟨ad, rfl, hc⟩
  · refine wpList_plain hgd fun K hK => ?_
    unfold Oper.wp execOp
    simp only [ho, resolve, invoke, builtin, Sem.run_bind, Sem.run_pure, Result.andThen_ok, List.map_toArray, List.map_cons, List.map_nil, hs, hx, List.length_nil, run_append_nils w t o.type e i ht hi f]
    exact hK _ _ (h _ w (World.ownsRow_nil w base e 1) (Below.refl _ _))
  · refine wpList_append_own_at w hgd s x t ho base e i (.int .i64 0) 1 8 ht hi hz hsize hby rfl (by decide) (.slice none 0 0) 0 [] hs (World.ownsRow_nil w base e 1) ad l.length f (l.map (Value.int .i64)) hx (by simp) hc (fun u hu => ?_) (by unfold maxLen; omega) (by omega) hbase fun v' w' hown' hgrow _ _ => ?_
    · obtain ⟨z, _, rfl⟩ := List.mem_map.1 hu
      rfl
    · rw [Nat.zero_add] at hown'
      exact h v' w' hown' ((Below.refl _ w).grown hgrow (Nat.le_refl _) (by simp [Value.ownBlock]))
/-- A row of ints that is the call's own. -/
def SortOwn (os : List Int) (w : World) (e : Ending) (w' : World) : Prop :=
  ∃ A c, e = .returned (.slice A os.length c) ∧ Ints .i64 w' A os ∧ (∀ a, A = some a → w.heap.size ≤ a.block) ∧ Below w.heap.size w w'
theorem own_at {w : World} {B e s n m c : Nat} {A : Option Addr} {xs : List Value} (h : w.ownsRow B e s (.slice A m c) n xs) : ∀ a, A = some a → B ≤ a.block := fun a q => (h.lt a.block (by rw [q]; rfl)).1
set_option maxHeartbeats 4000000 in
theorem ref18_has (A : Option Addr) (c : Nat) (zs : List Int) (x : Int) (w : World) (hl : zs.length ≤ 9223372036854775807) (hI : Ints .i64 w A zs) :
    Calls Tryz.prog 24 #[.slice A zs.length c, .int .i64 x] w fun e w' => e = .returned (.bool (hasB zs x)) ∧ w = w' := by
  have HI := Lib.hid hI
  clear hI
  go_enter Tryz.func24, Tryz.ntmps24
  go_wp2_with fail
  go_loop [5] (fun i => ∃ k : Nat, k ≤ zs.length ∧ i = .int .i64 k ∧ (zs.take k).contains x = false) (fun i => zs.length - (intOf i).toNat)
  case atStart => exact ⟨0, Nat.zero_le _, rfl, rfl⟩
  case round =>
    obtain ⟨k, hk, rfl, hno⟩ := hrel
    by_cases hlt : k < zs.length
    · obtain ⟨b, off, rfl, -, hc⟩ := HI.out k hlt
      rw [getD_at hlt] at hc
      by_cases he : zs[k] = x
      · have e1 : (zs[k] == x) = true := by simp [he]
        have HX := Lib.hid (show hasB zs x = true by unfold hasB; rw [List.contains_iff_mem]; rw [← he]; exact List.getElem_mem hlt)
        clear he hno
        go_wp2_with fail
        go_ret
        exact ⟨by rw [HX.out]; rfl, rfl⟩
      · have e1 : (zs[k] == x) = false := by simp [he]
        have HX := Lib.hid (show (zs.take (k + 1)).contains x = false by
          rw [List.take_succ_eq_append_getElem hlt]
          simp at hno
          simp only [List.contains_eq_mem, List.mem_append, decide_eq_false_iff_not, List.mem_singleton]
          intro h
          rcases h with h | h
          · exact hno h
          · exact he h.symm)
        clear he hno
        go_wp2_with fail
        go_round
        case rel => exact ⟨k + 1, by omega, by go_num, HX.out⟩
        case measure => simp [intOf]; omega
    · obtain rfl : k = zs.length := by omega
      rw [List.take_length] at hno
      have HX := Lib.hid (show hasB zs x = false from hno)
      clear hno
      go_wp2_with fail
      go_ret
      exact ⟨by rw [HX.out]; rfl, rfl⟩
theorem Rf.without_take {l : List Int} {z : Int} {k : Nat} (h : k < l.length) : Rf.without (l.take (k + 1)) z = Rf.without (l.take k) z ++ if l[k] = z then [] else [l[k]] := by
  unfold Rf.without
  rw [List.take_succ_eq_append_getElem h, List.filter_append]
  split
  · rename_i e; simp [e]
  · rename_i e; simp [e]
end Go.Proofs.YtnffjfjhbjeaiaaGreatDoor
/- The reference of layer 21: a state in memory; do: contract. -/
namespace Go.Proofs.YtnffjfjhbjeaiaaGreatDoor
open Go.RowKit
theorem pair_info : (Tryz.prog.info? 45).map (fun i => (i.zero, i.size, i.bytes)) = some (some (.agg #[.int .i64 0, .int .i64 0]), 2, 16) := by kernel_rfl
theorem pairs_src {w : World} {A : Option Addr} {ps : List (Int × Int)} (h : Pairs w A ps) : (A = none ∧ ps = []) ∨ ∃ ad, A = some ad ∧ ∀ (j : Nat) (u : Value), (pairCells ps)[j]? = some u → w.cell? (ad.add j) = some u := by
  rcases A with _ | ad
  · left
    refine ⟨rfl, ?_⟩
    rcases ps with _ | ⟨s, r⟩
    · rfl
    · obtain ⟨_, _, e, _⟩ := h 0 (by simp)
      cases e
  · right
    refine ⟨ad, rfl, fun j u hu => ?_⟩
    have hj : j < ps.length * 2 := by
      rcases Nat.lt_or_ge j (pairCells ps).length with h | h
      · rw [pairCells_length] at h; exact h
      · rw [List.getElem?_eq_none h] at hu; cases hu
    have hk : j / 2 < ps.length := by omega
    obtain ⟨b, off, e, _, h1, h2⟩ := h (j / 2) hk
    injection e with e
    subst e
    have ⟨e1, e2⟩ := pairCells_at ps (j / 2) hk
    rw [add_plain']
    rcases Nat.mod_two_eq_zero_or_one j with hm | hm
    · have hj2 : j / 2 * 2 = j := by omega
      rw [hj2] at e1 h1
      rw [hu] at e1
      injection e1 with e1
      rw [h1, e1]
    · have hj2 : j / 2 * 2 + 1 = j := by omega
      rw [hj2] at e2
      rw [Nat.add_assoc, hj2] at h2
      rw [hu] at e2
      injection e2 with e2
      rw [h2, e2]
theorem pairCells_one : ∀ (ps : List (Int × Int)), ∀ u ∈ pairCells ps, u.oneCell' = true := fun ps u hu => by
  unfold pairCells at hu
  obtain ⟨p, _, hp⟩ := List.mem_flatMap.1 hu
  simp at hp
  rcases hp with rfl | rfl <;> rfl
/-- append of a row of pairs onto nothing. -/
theorem wpList_append_pairs {P : Program} {ops : Array Oper} {rest : List Oper} {o : Oper} {a : Act} {Q : Exit → Act → World → Prop} {w : World} (hgd : o.guard = none) (s x : Operand) (t : TypeId)
    (ho : o.op = .call { callee := .builtin .append, args := #[s, x], argTypes := #[t, t] })
    (base : Nat) (e : TypeId) (i : TypeInfo) (ht : P.underlying t = some (.slice e)) (hi : P.info? e = some i) (hz : i.zero = some (.agg #[.int .i64 0, .int .i64 0])) (hsize : i.size = 2) (hby : i.bytes = 16)
    (hs : a.eval s = .slice none 0 0) (X : Option Addr) (f : Nat) (l : List (Int × Int)) (hx : a.eval x = .slice X l.length f) (hX : Pairs w X l) (hbase : base ≤ w.heap.size) (hn : l.length ≤ 1000000)
    (h : ∀ v' w', w'.ownsRow base e 2 v' l.length (pairCells l) → Below w.heap.size w w' → wpList P ops Q rest (a.put o.dst v') w') :
    wpList P ops Q (o :: rest) a w := by
  rcases pairs_src hX with ⟨rfl, rfl⟩ | ⟨ad, rfl, hc⟩
  · refine wpList_plain hgd fun K hK => ?_
    unfold Oper.wp execOp
    simp only [ho, resolve, invoke, builtin, Sem.run_bind, Sem.run_pure, Result.andThen_ok, List.map_toArray, List.map_cons, List.map_nil, hs, hx, List.length_nil, run_append_nils w t o.type e i ht hi f]
    exact hK _ _ (h _ w (World.ownsRow_nil w base e 2) (Below.refl _ _))
  · refine wpList_append_own_at w hgd s x t ho base e i (.agg #[.int .i64 0, .int .i64 0]) 2 16 ht hi hz hsize hby rfl (by decide) (.slice none 0 0) 0 [] hs (World.ownsRow_nil w base e 2) ad l.length f (pairCells l) hx (by rw [pairCells_length]) hc (pairCells_one l) (by unfold maxLen; omega) (by omega) hbase fun v' w' hown' hgrow _ _ => ?_
    rw [Nat.zero_add] at hown'
    exact h v' w' hown' ((Below.refl _ w).grown hgrow (Nat.le_refl _) (by simp [Value.ownBlock]))
theorem Pairs.set {w : World} {A : Option Addr} {ps : List (Int × Int)} (h : Pairs w A ps) {p : Addr} (hp : ps ≠ [] → ∀ a, A = some a → a.block ≠ p.block) (v : Value) : Pairs (w.setCell p v) A ps := fun k hk => by
  obtain ⟨b, off, e, hb, h1, h2⟩ := h k hk
  have hne := hp (fun q => by subst q; simp at hk) _ e
  have hh := Below.heap_setCell w p v b hne
  exact ⟨b, off, e, by simpa using hb, by rw [World.cell?_of_block (w := w) (a := ⟨b, off + k * 2, none⟩) hh]; exact h1, by rw [World.cell?_of_block (w := w) (a := ⟨b, off + k * 2 + 1, none⟩) hh]; exact h2⟩
theorem Ints.set {w : World} {A : Option Addr} {zs : List Int} (h : Ints .i64 w A zs) {p : Addr} (hp : zs ≠ [] → ∀ a, A = some a → a.block ≠ p.block) (v : Value) : Ints .i64 (w.setCell p v) A zs := fun k hk => by
  obtain ⟨b, off, e, hb, h1⟩ := h k hk
  have hne := hp (fun q => by subst q; simp at hk) _ e
  have hh := Below.heap_setCell w p v b hne
  exact ⟨b, off, e, by simpa using hb, by rw [World.cell?_of_block (w := w) (a := ⟨b, off + k, none⟩) hh]; exact h1⟩
theorem Ints.off {w : World} {A : Option Addr} {zs : List Int} {g : Nat} (h : Ints .i64 w A zs) (hg : w.heap.size ≤ g) : zs ≠ [] → ∀ a, A = some a → a.block ≠ g := fun hz a e q => by
  obtain ⟨b, off, e2, hb, _⟩ := h 0 (List.length_pos_iff.2 hz)
  rw [e] at e2
  injection e2 with e2
  subst e2
  simp at q
  omega
theorem Pairs.off {w : World} {A : Option Addr} {ps : List (Int × Int)} {g : Nat} (h : Pairs w A ps) (hg : w.heap.size ≤ g) : ps ≠ [] → ∀ a, A = some a → a.block ≠ g := fun hz a e q => by
  obtain ⟨b, off, e2, hb, _⟩ := h 0 (List.length_pos_iff.2 hz)
  rw [e] at e2
  injection e2 with e2
  subst e2
  simp at q
  omega
/-- Where a document's lowering lies: what stays, and what doesn't. -/
structure RsF where
  A : Option Addr
  N : Option Addr
  K : Option Addr
  c : Nat
  d : Nat
  ck : Nat
structure RsV where
  Th : Option Addr
  C : Option Addr
  ct : Nat
  cc : Nat
def RsF.cells (F : RsF) (V : RsV) (n : NetD) (lo : Int) (keep : List Int) (x : RtD) : Array Value :=
  #[.slice F.A n.inn.length F.c, .slice F.N n.nodes.length F.d, .int .i64 lo, .slice F.K keep.length F.ck, .slice V.Th x.there.length V.ct, .slice none 0 0, .slice V.C x.code.length V.cc]
structure RsV.At (V : RsV) (x : RtD) (w : World) : Prop where
  there : Ints .i64 w V.Th x.there
  code : Pairs w V.C x.code
/-- Its rows do not lie in block g. -/
structure RsV.Off (V : RsV) (x : RtD) (g : Nat) : Prop where
  there : x.there ≠ [] → ∀ a, V.Th = some a → a.block ≠ g
  code : x.code ≠ [] → ∀ a, V.C = some a → a.block ≠ g
theorem Pairs.later {w w' : World} {A : Option Addr} {ps : List (Int × Int)} (h : Pairs w A ps) (hl : Later w w') : Pairs w' A ps := h.below hl (Nat.le_refl _)
theorem RsV.At.later {V : RsV} {x : RtD} {w w' : World} (h : V.At x w) (hl : Later w w') : V.At x w' := ⟨h.there.below hl (Nat.le_refl _), h.code.later hl⟩
theorem RsV.At.off {V : RsV} {x : RtD} {w : World} {g : Nat} (h : V.At x w) (hg : w.heap.size ≤ g) : V.Off x g := ⟨h.there.off hg, h.code.off hg⟩
theorem RsV.At.set {V : RsV} {x : RtD} {w : World} {p : Addr} (h : V.At x w) (ho : V.Off x p.block) (v : Value) : V.At x (w.setCell p v) := ⟨h.there.set ho.there v, h.code.set ho.code v⟩
def RsP (F : RsF) (V : RsV) (n : NetD) (lo : Int) (keep : List Int) (x x' : RtD) (w : World) (e : Ending) (w' : World) : Prop :=
  ∃ V' : RsV, e = .returned (.agg (F.cells V' n lo keep x')) ∧ V'.At x' w' ∧ (∀ g, g < w.heap.size → V.Off x g → V'.Off x' g) ∧ Later w w'
def zeros7 : Array Value := #[.slice none 0 0, .slice none 0 0, .int .i64 0, .slice none 0 0, .slice none 0 0, .slice none 0 0, .slice none 0 0]
abbrev set7 (w : World) (g : Nat) (a0 a1 a2 a3 a4 a5 a6 : Value) : World := ((((((w.setCell ⟨g, 0, none⟩ a0).setCell ⟨g, 1, none⟩ a1).setCell ⟨g, 2, none⟩ a2).setCell ⟨g, 3, none⟩ a3).setCell ⟨g, 4, none⟩ a4).setCell ⟨g, 5, none⟩ a5).setCell ⟨g, 6, none⟩ a6
theorem array_set7 (cs : Array Value) (h : cs.size = 7) (a0 a1 a2 a3 a4 a5 a6 : Value) : ((((((cs.setIfInBounds 0 a0).setIfInBounds 1 a1).setIfInBounds 2 a2).setIfInBounds 3 a3).setIfInBounds 4 a4).setIfInBounds 5 a5).setIfInBounds 6 a6 = #[a0, a1, a2, a3, a4, a5, a6] := by
  obtain ⟨l⟩ := cs
  match l, h with
  | [x0, x1, x2, x3, x4, x5, x6], _ => simp only [List.setIfInBounds_toArray, List.set_cons_zero, List.set_cons_succ]
theorem Blk.set7 {w : World} {g : Nat} {t : TypeId} {cs : Array Value} (h : Blk w g t cs) (hs : cs.size = 7) (a0 a1 a2 a3 a4 a5 a6 : Value) : Blk (set7 w g a0 a1 a2 a3 a4 a5 a6) g t #[a0, a1, a2, a3, a4, a5, a6] := by
  have k := ((((((h.set_ 0 a0).set_ 1 a1).set_ 2 a2).set_ 3 a3).set_ 4 a4).set_ 5 a5).set_ 6 a6
  rw [array_set7 cs hs] at k
  exact k
theorem Blk.off7 {w : World} {g g2 : Nat} {t : TypeId} {cs : Array Value} (h : Blk w g t cs) (hg : g ≠ g2) (a0 a1 a2 a3 a4 a5 a6 : Value) : Blk (Go.Proofs.YtnffjfjhbjeaiaaGreatDoor.set7 w g2 a0 a1 a2 a3 a4 a5 a6) g t cs :=
  ((((((h.far (p := ⟨g2, 0, none⟩) hg a0).far (p := ⟨g2, 1, none⟩) hg a1).far (p := ⟨g2, 2, none⟩) hg a2).far (p := ⟨g2, 3, none⟩) hg a3).far (p := ⟨g2, 4, none⟩) hg a4).far (p := ⟨g2, 5, none⟩) hg a5).far (p := ⟨g2, 6, none⟩) hg a6
theorem later7 {W w : World} {g : Nat} (h : Later W w) (hg : W.heap.size ≤ g) (a0 a1 a2 a3 a4 a5 a6 : Value) : Later W (set7 w g a0 a1 a2 a3 a4 a5 a6) :=
  ((((((h.set (p := ⟨g, 0, none⟩) hg a0).set (p := ⟨g, 1, none⟩) hg a1).set (p := ⟨g, 2, none⟩) hg a2).set (p := ⟨g, 3, none⟩) hg a3).set (p := ⟨g, 4, none⟩) hg a4).set (p := ⟨g, 5, none⟩) hg a5).set (p := ⟨g, 6, none⟩) hg a6
theorem RsV.At.set7 {V : RsV} {x : RtD} {w : World} {g : Nat} (h : V.At x w) (ho : V.Off x g) (a0 a1 a2 a3 a4 a5 a6 : Value) : V.At x (set7 w g a0 a1 a2 a3 a4 a5 a6) :=
  ((((((h.set (p := ⟨g, 0, none⟩) ho a0).set (p := ⟨g, 1, none⟩) ho a1).set (p := ⟨g, 2, none⟩) ho a2).set (p := ⟨g, 3, none⟩) ho a3).set (p := ⟨g, 4, none⟩) ho a4).set (p := ⟨g, 5, none⟩) ho a5).set (p := ⟨g, 6, none⟩) ho a6
theorem cells7 {F : RsF} {V : RsV} {n : NetD} {lo : Int} {keep : List Int} {x : RtD} {w : World} {g : Nat} {t : TypeId} (h : Blk w g t (F.cells V n lo keep x)) :
    w.cell? ⟨g, 0, none⟩ = some (.slice F.A n.inn.length F.c) ∧ w.cell? ⟨g, 1, none⟩ = some (.slice F.N n.nodes.length F.d) ∧ w.cell? ⟨g, 2, none⟩ = some (.int .i64 lo) ∧ w.cell? ⟨g, 3, none⟩ = some (.slice F.K keep.length F.ck) ∧ w.cell? ⟨g, 4, none⟩ = some (.slice V.Th x.there.length V.ct) ∧ w.cell? ⟨g, 5, none⟩ = some (.slice none 0 0) ∧ w.cell? ⟨g, 6, none⟩ = some (.slice V.C x.code.length V.cc) := by
  refine ⟨?_, ?_, ?_, ?_, ?_, ?_, ?_⟩ <;> rw [h.cell] <;> rfl
theorem frozen7 {w : World} {g : Nat} {t : TypeId} {cs : Array Value} (h : Blk w g t cs) : w.frozen? ⟨g, 0, none⟩ = false ∧ w.frozen? ⟨g, 1, none⟩ = false ∧ w.frozen? ⟨g, 2, none⟩ = false ∧ w.frozen? ⟨g, 3, none⟩ = false ∧ w.frozen? ⟨g, 4, none⟩ = false ∧ w.frozen? ⟨g, 5, none⟩ = false ∧ w.frozen? ⟨g, 6, none⟩ = false :=
  ⟨h.frozen 0, h.frozen 1, h.frozen 2, h.frozen 3, h.frozen 4, h.frozen 5, h.frozen 6⟩
theorem zero7 {w : World} {g : Nat} {t : TypeId} (h : Blk w g t zeros7) : w.cell? ⟨g, 0, none⟩ = some (.slice none 0 0) ∧ w.cell? ⟨g, 1, none⟩ = some (.slice none 0 0) ∧ w.cell? ⟨g, 2, none⟩ = some (.int .i64 0) ∧ w.cell? ⟨g, 3, none⟩ = some (.slice none 0 0) ∧ w.cell? ⟨g, 4, none⟩ = some (.slice none 0 0) ∧ w.cell? ⟨g, 5, none⟩ = some (.slice none 0 0) ∧ w.cell? ⟨g, 6, none⟩ = some (.slice none 0 0) := by
  refine ⟨?_, ?_, ?_, ?_, ?_, ?_, ?_⟩ <;> rw [h.cell] <;> rfl
/-- The two boxes of a function that answers a lowering: the lowering, and the answer's. -/
structure RsB (h g6 : Nat) (F : RsF) (V : RsV) (n : NetD) (lo : Int) (keep : List Int) (x : RtD) (V2 : RsV) (y : RtD) (w0 w : World) : Prop where
  hh : w0.heap.size ≤ h
  h6 : h < g6
  later : Later w0 w
  b3 : Blk w h 87 (F.cells V2 n lo keep y)
  b6 : Blk w g6 87 zeros7
  aty : V2.At y w
  o3 : V2.Off y h
  o6 : V2.Off y g6
  keepOff : ∀ g, g < w0.heap.size → V.Off x g → V2.Off y g
section
variable {h g6 : Nat} {F : RsF} {V V2 V3 : RsV} {n : NetD} {lo : Int} {keep : List Int} {x y y3 : RtD} {w0 w w' : World}
theorem RsB.to_later (k : RsB h g6 F V n lo keep x V2 y w0 w) (hl : Later w w') : RsB h g6 F V n lo keep x V2 y w0 w' :=
  ⟨k.hh, k.h6, k.later.trans hl, hl.blk k.b3, hl.blk k.b6, k.aty.later hl, k.o3, k.o6, k.keepOff⟩
theorem RsB.start (hV : V.At x w) : RsB w.heap.size (w.heap.size + 1) F V n lo keep x V x w ((w.alloc (.cells (F.cells V n lo keep x) 87)).alloc (.cells zeros7 87)) := by
  have hl : Later w ((w.alloc (.cells (F.cells V n lo keep x) 87)).alloc (.cells zeros7 87)) := ((Later.refl w).alloc _).alloc _
  have h6 := Blk.new (w.alloc (.cells (F.cells V n lo keep x) 87)) 87 zeros7
  rw [World.size_alloc] at h6
  exact ⟨Nat.le_refl _, by omega, hl, (Blk.new _ _ _).alloc _, h6, hV.later hl, hV.off (Nat.le_refl _), hV.off (by omega), fun _ _ q => q⟩
/-- What a callee answers is stored. -/
theorem RsB.put (k : RsB h g6 F V n lo keep x V2 y w0 w) (hl : Later w w') (hA : V3.At y3 w') (ho : ∀ g, g < w.heap.size → V2.Off y g → V3.Off y3 g) :
    RsB h g6 F V n lo keep x V3 y3 w0 (set7 w' h (.slice F.A n.inn.length F.c) (.slice F.N n.nodes.length F.d) (.int .i64 lo) (.slice F.K keep.length F.ck) (.slice V3.Th y3.there.length V3.ct) (.slice none 0 0) (.slice V3.C y3.code.length V3.cc)) := by
  have h1 := k.b3.lt
  have h2 := k.b6.lt
  have h3 := k.hh
  have h4 := k.h6
  have o3 := ho h h1 k.o3
  exact ⟨k.hh, k.h6, later7 (k.later.trans hl) k.hh _ _ _ _ _ _ _, (hl.blk k.b3).set7 rfl _ _ _ _ _ _ _, (hl.blk k.b6).off7 (by omega) _ _ _ _ _ _ _, hA.set7 o3 _ _ _ _ _ _ _, o3, ho g6 h2 k.o6, fun g hg q => ho g (by omega) (k.keepOff g hg q)⟩
/-- The answer is stored. -/
theorem RsB.fin (k : RsB h g6 F V n lo keep x V2 y w0 w) : RsP F V n lo keep x y w0 (.returned (.agg (F.cells V2 n lo keep y))) (set7 w g6 (.slice F.A n.inn.length F.c) (.slice F.N n.nodes.length F.d) (.int .i64 lo) (.slice F.K keep.length F.ck) (.slice V2.Th y.there.length V2.ct) (.slice none 0 0) (.slice V2.C y.code.length V2.cc)) :=
  ⟨V2, rfl, k.aty.set7 k.o6 _ _ _ _ _ _ _, k.keepOff, later7 k.later (by have := k.hh; have := k.h6; omega) _ _ _ _ _ _ _⟩
/-- A callee's answer, stored at once as one's own. -/
theorem RsB.fin2 (k : RsB h g6 F V n lo keep x V2 y w0 w) (hl : Later w w') (hA : V3.At y3 w') (ho : ∀ g, g < w.heap.size → V2.Off y g → V3.Off y3 g) : RsP F V n lo keep x y3 w0 (.returned (.agg (F.cells V3 n lo keep y3))) (set7 w' g6 (.slice F.A n.inn.length F.c) (.slice F.N n.nodes.length F.d) (.int .i64 lo) (.slice F.K keep.length F.ck) (.slice V3.Th y3.there.length V3.ct) (.slice none 0 0) (.slice V3.C y3.code.length V3.cc)) :=
  ⟨V3, rfl, hA.set7 (ho g6 k.b6.lt k.o6) _ _ _ _ _ _ _, fun g hg q => ho g (by have := k.hh; have := k.b3.lt; omega) (k.keepOff g hg q), later7 (k.later.trans hl) (by have := k.hh; have := k.h6; omega) _ _ _ _ _ _ _⟩
/-- There is told anew. -/
theorem RsB.there (k : RsB h g6 F V n lo keep x V2 y w0 w) (hl : Later w w') {A : Option Addr} {c : Nat} {l : List Int} (hI : Ints .i64 w' A l) (hA : ∀ a, A = some a → w.heap.size ≤ a.block) :
    RsB h g6 F V n lo keep x ⟨A, V2.C, c, V2.cc⟩ ⟨l, y.code⟩ w0 (w'.setCell ⟨h, 4, none⟩ (.slice A l.length c)) := by
  have h1 := k.b3.lt
  have h2 := k.b6.lt
  have h3 := k.hh
  have h4 := k.h6
  refine ⟨k.hh, k.h6, (k.later.trans hl).set (p := ⟨h, 4, none⟩) k.hh _, (hl.blk k.b3).set_ 4 _, (hl.blk k.b6).far (p := ⟨h, 4, none⟩) (by show g6 ≠ h; omega) _, ⟨?_, ?_⟩, ⟨fun _ a e => by have := hA a e; omega, k.o3.code⟩, ⟨fun _ a e => by have := hA a e; omega, k.o6.code⟩, fun g hg q => ⟨fun _ a e => by have := hA a e; omega, (k.keepOff g hg q).code⟩⟩
  · exact hI.set (p := ⟨h, 4, none⟩) (fun _ a e => by have := hA a e; show a.block ≠ h; omega) _
  · exact (k.aty.code.later hl).set (p := ⟨h, 4, none⟩) k.o3.code _
/-- The code is told anew. -/
theorem RsB.code (k : RsB h g6 F V n lo keep x V2 y w0 w) (hl : Later w w') {A : Option Addr} {c : Nat} {l : List (Int × Int)} (hI : Pairs w' A l) (hA : ∀ a, A = some a → w.heap.size ≤ a.block) :
    RsB h g6 F V n lo keep x ⟨V2.Th, A, V2.ct, c⟩ ⟨y.there, l⟩ w0 (w'.setCell ⟨h, 6, none⟩ (.slice A l.length c)) := by
  have h1 := k.b3.lt
  have h2 := k.b6.lt
  have h3 := k.hh
  have h4 := k.h6
  refine ⟨k.hh, k.h6, (k.later.trans hl).set (p := ⟨h, 6, none⟩) k.hh _, (hl.blk k.b3).set_ 6 _, (hl.blk k.b6).far (p := ⟨h, 6, none⟩) (by show g6 ≠ h; omega) _, ⟨?_, ?_⟩, ⟨k.o3.there, fun _ a e => by have := hA a e; omega⟩, ⟨k.o6.there, fun _ a e => by have := hA a e; omega⟩, fun g hg q => ⟨(k.keepOff g hg q).there, fun _ a e => by have := hA a e; omega⟩⟩
  · exact (k.aty.there.below hl (Nat.le_refl _)).set (p := ⟨h, 6, none⟩) k.o3.there _
  · exact hI.set (p := ⟨h, 6, none⟩) (fun _ a e => by have := hA a e; show a.block ≠ h; omega) _
end
set_option maxHeartbeats 8000000 in
set_option maxRecDepth 100000 in
theorem ref21_do (F : RsF) (V : RsV) (n : NetD) (lo : Int) (keep : List Int) (x : RtD) (w : World) (hV : V.At x w) (hl : x.code.length ≤ 100000) (k id : Int) :
    Calls Tryz.prog 40 #[.agg (F.cells V n lo keep x), .int .i64 k, .int .i64 id] w (RsP F V n lo keep x (Rt.addD k id x) w) := by
  obtain ⟨i0, hi, hz0, hz1, hz2⟩ := info_parts pair_info
  have hB := RsB.start (F := F) (n := n) (lo := lo) (keep := keep) hV
  have y6 := (cells7 hB.b3).2.2.2.2.2.2
  unfold zeros7 at *
  have hsz : ((w.alloc (.cells (F.cells V n lo keep x) 87)).alloc (.cells #[.slice none 0 0, .slice none 0 0, .int .i64 0, .slice none 0 0, .slice none 0 0, .slice none 0 0, .slice none 0 0] 87)).heap.size = w.heap.size + 2 := by simp
  have HB := Lib.hid hB
  have Hsz := Lib.hid hsz
  have HV := Lib.hid hV
  clear hB hsz hV
  go_enter Tryz.func40, Tryz.ntmps40
  go_upto_region 2 with fail
  generalize (w.alloc (.cells (F.cells V n lo keep x) 87)).alloc (.cells #[.slice none 0 0, .slice none 0 0, .int .i64 0, .slice none 0 0, .slice none 0 0, .slice none 0 0, .slice none 0 0] 87) = w2 at *
  generalize hg3 : w.heap.size = g3 at *
  go_wp2_with (at_builtin; refine wpList_append_pairs rfl _ _ 41 rfl w2.heap.size 45 i0 Tryz.underlying41 hi hz0 hz1 hz2 rfl V.C V.cc x.code rfl HB.out.aty.code (Nat.le_refl _) (by omega) ?_)
  intro v' w3 hown hb3
  obtain ⟨A3, c3, rfl⟩ := own_form hown
  have hl3 : Later w2 w3 := hb3
  have hown4 := ownsRow_new hown (.cells #[.int .i64 k, .int .i64 id] 45)
  have hl4 := hl3.alloc (.cells #[.int .i64 k, .int .i64 id] 45)
  have hs3 := Below.size hl3
  have HLO := Lib.hid (fun b (hb : (Value.slice A3 x.code.length c3).ownBlock = some b) => (hown.lt b hb).1)
  clear y6 hb3 hown
  have Hl3 := Lib.hid hl3
  have Hl4 := Lib.hid hl4
  have Hg3 := Lib.hid hg3
  clear hl3 hl4 hg3
  go_wp2_with (at_builtin; refine wpList_append_own_at _ rfl _ _ 41 rfl w2.heap.size 45 i0 (.agg #[.int .i64 0, .int .i64 0]) 2 16 Tryz.underlying41 hi hz0 hz1 hz2 rfl (by decide) _ _ _ rfl hown4 ⟨w3.heap.size, 0, none⟩ 1 1 [.int .i64 k, .int .i64 id] rfl rfl ?c1 (by intro u hu; simp at hu; rcases hu with rfl | rfl <;> rfl) (by unfold maxLen; omega) (by omega) ?c2 ?_)
  first | (case c1 => exact World.news_of_block (cs := #[.int .i64 k, .int .i64 id]) (t := 45) (fr := (0, 0)) (heap_alloc_new w3 _)) | skip
  case c2 => simp; omega
  intro v' w5 hown5 hgrow _ hat
  have hl5 : Later w2 w5 := Below.grown Hl4.out hgrow (by simp; omega) (fun b hb => HLO.out b hb)
  obtain ⟨cd, hcd⟩ : ∃ cd, x.code ++ [(k, id)] = cd := ⟨_, rfl⟩
  have hown6 : w5.ownsRow w2.heap.size 45 2 v' cd.length (pairCells cd) := by rw [← hcd, pairCells_append, List.length_append, List.length_singleton]; exact hown5
  have HE := Lib.hid (show Rt.addD k id x = ⟨x.there, cd⟩ by unfold Rt.addD; rw [hcd])
  clear hcd
  obtain ⟨A5, c5, rfl⟩ := own_form hown6
  have hP : Pairs w5 A5 cd := by
    obtain ⟨A, c, e, _, hp⟩ := Pairs.of_own hown6
    injection e with e; subst e; exact hp
  have hat2 := own_at hown6
  have hB6 := HB.out.code hl5 (c := c5) hP hat2
  have d6 : w5.cell? ⟨g3, 6, none⟩ = some (.slice V.C x.code.length V.cc) := (cells7 (hl5.blk HB.out.b3)).2.2.2.2.2.2
  have f6 : w5.frozen? ⟨g3, 6, none⟩ = false := (hl5.blk HB.out.b3).frozen 6
  clear hown5 hgrow hat hown4 HLO hP hat2 hl5 hown6
  have HB6 := Lib.hid hB6
  clear hB6
  go_upto_region 4 with fail
  generalize w5.setCell ⟨g3, 6, none⟩ (.slice A5 cd.length c5) = w6 at *
  clear d6 f6
  obtain ⟨y0, y1, y2, y3, y4, y5, y6⟩ := cells7 HB6.out.b3
  obtain ⟨z0, z1, z2, z3, z4, z5, z6⟩ := zero7 HB6.out.b6
  obtain ⟨f0, f1, f2, f3, f4, f5, f6⟩ := frozen7 HB6.out.b6
  have HF := Lib.hid HB6.out.fin
  rw [← HE.out] at HF
  go_wp2_with fail
  refine bodyPost_ret (v := .agg (F.cells ⟨V.Th, A5, V.ct, c5⟩ n lo keep ⟨x.there, cd⟩)) (by simp [results, Tryz.results40, go_sem, z0, z1, z2, z3, z4, z5, z6]; rfl) rfl ?_
  rw [HE.out] at HF
  rw [HE.out]
  exact HF.out
end Go.Proofs.YtnffjfjhbjeaiaaGreatDoor
/- The reference of layer 21: reckon, drop: contracts. -/
namespace Go.Proofs.YtnffjfjhbjeaiaaGreatDoor
open Go.RowKit
set_option maxHeartbeats 8000000 in
set_option maxRecDepth 100000 in
theorem ref21_reckon (F : RsF) (V : RsV) (n : NetD) (lo : Int) (keep : List Int) (x : RtD) (w : World) (hV : V.At x w) (hl : x.code.length ≤ 100000) (ht : x.there.length ≤ 1000) (k id : Int) :
    Calls Tryz.prog 37 #[.agg (F.cells V n lo keep x), .int .i64 k, .int .i64 id] w (RsP F V n lo keep x (Rt.compD k id x) w) := by
  obtain ⟨i0, hi, hz0, hz1, hz2⟩ := info_parts int_info
  have hB := RsB.start (F := F) (n := n) (lo := lo) (keep := keep) hV
  obtain ⟨y0, y1, y2, y3, y4, y5, y6⟩ := cells7 hB.b3
  unfold zeros7 at *
  have HB := Lib.hid hB
  have HV := Lib.hid hV
  clear hB hV
  go_enter Tryz.func37, Tryz.ntmps37
  go_upto_region 1 with fail
  generalize (w.alloc (.cells (F.cells V n lo keep x) 87)).alloc (.cells #[.slice none 0 0, .slice none 0 0, .int .i64 0, .slice none 0 0, .slice none 0 0, .slice none 0 0, .slice none 0 0] 87) = w2 at *
  generalize hg3 : w.heap.size = g3 at *
  have Hg3 := Lib.hid hg3
  clear hg3
  go_wp2_with fail
  refine (ref21_do F V n lo keep x w2 HB.out.aty hl k id).mono ?_
  rintro e w3 ⟨V3, rfl, hA3, ho3, hl3⟩
  have hB4 := HB.out.put hl3 hA3 ho3
  unfold set7 at hB4
  obtain ⟨d0, d1, d2, d3, d4, d5, d6⟩ := cells7 (hl3.blk HB.out.b3)
  obtain ⟨f0, f1, f2, f3, f4, f5, f6⟩ := frozen7 (hl3.blk HB.out.b3)
  have HY := Lib.hid (show Rt.compD k id x = ⟨(Rt.addD k id x).there ++ [id], (Rt.addD k id x).code⟩ from rfl)
  have hyt : (Rt.addD k id x).there.length ≤ 1000 := ht
  rw [show F.cells V3 n lo keep (Rt.addD k id x) = #[.slice F.A n.inn.length F.c, .slice F.N n.nodes.length F.d, .int .i64 lo, .slice F.K keep.length F.ck, .slice V3.Th (Rt.addD k id x).there.length V3.ct, .slice none 0 0, .slice V3.C (Rt.addD k id x).code.length V3.cc] from rfl]
  generalize Rt.addD k id x = y at *
  clear y0 y1 y2 y3 y4 y5 y6 hA3 ho3 hl3
  have HB4 := Lib.hid hB4
  clear hB4
  go_upto_region 2 with fail
  clear d0 d1 d2 d3 d4 d5 d6 f0 f1 f2 f3 f4 f5 f6
  generalize ((((((w3.setCell ⟨g3, 0, none⟩ (.slice F.A n.inn.length F.c)).setCell ⟨g3, 1, none⟩ (.slice F.N n.nodes.length F.d)).setCell ⟨g3, 2, none⟩ (.int .i64 lo)).setCell ⟨g3, 3, none⟩ (.slice F.K keep.length F.ck)).setCell ⟨g3, 4, none⟩ (.slice V3.Th y.there.length V3.ct)).setCell ⟨g3, 5, none⟩ (.slice none 0 0)).setCell ⟨g3, 6, none⟩ (.slice V3.C y.code.length V3.cc) = w4 at *
  obtain ⟨-, -, -, -, y4, -, -⟩ := cells7 HB4.out.b3
  go_wp2_with (at_builtin; refine wpList_append_ints rfl _ _ 22 rfl w4.heap.size 3 i0 Tryz.underlying22 hi hz0 hz1 hz2 rfl V3.Th V3.ct y.there rfl HB4.out.aty.there (Nat.le_refl _) (by omega) ?_)
  intro v' w5 hown hb5
  obtain ⟨A5, c5, rfl⟩ := own_form hown
  have hl5 : Later w4 w5 := hb5
  have hown6 := ownsRow_new hown (.cells #[.int .i64 id] 3)
  have hl6 := hl5.alloc (.cells #[.int .i64 id] 3)
  have hs5 := Below.size hl5
  have HLO := Lib.hid (fun b (hb : (Value.slice A5 y.there.length c5).ownBlock = some b) => (hown.lt b hb).1)
  clear y4 hb5 hown
  have Hl5 := Lib.hid hl5
  have Hl6 := Lib.hid hl6
  clear hl5 hl6
  go_wp2_with (at_builtin; refine wpList_append_own_at _ rfl _ _ 22 rfl w4.heap.size 3 i0 (.int .i64 0) 1 8 Tryz.underlying22 hi hz0 hz1 hz2 rfl (by decide) _ _ _ rfl hown6 ⟨w5.heap.size, 0, none⟩ 1 1 [.int .i64 id] rfl rfl ?c1 (by intro u hu; simp at hu; subst hu; rfl) (by unfold maxLen; omega) (by omega) ?c2 ?_)
  first | (case c1 => exact one_new w5 _ _) | skip
  case c2 => simp; omega
  intro v' w7 hown7 hgrow _ hat
  have hl7 : Later w4 w7 := Below.grown Hl6.out hgrow (by simp; omega) (fun b hb => HLO.out b hb)
  obtain ⟨th, hth⟩ : ∃ th, y.there ++ [id] = th := ⟨_, rfl⟩
  have hown8 : w7.ownsRow w4.heap.size 3 1 v' th.length (th.map (Value.int .i64)) := by rw [← hth, List.map_append, List.length_append, List.length_singleton]; exact hown7
  have HE := Lib.hid (HY.out.trans (by rw [hth]))
  clear hth
  obtain ⟨A7, c7, rfl⟩ := own_form hown8
  obtain ⟨hI, -, -⟩ := own_ints hown8
  have hB8 := HB4.out.there hl7 (c := c7) hI (own_at hown8)
  have d4 : w7.cell? ⟨g3, 4, none⟩ = some (.slice V3.Th y.there.length V3.ct) := (cells7 (hl7.blk HB4.out.b3)).2.2.2.2.1
  have f4 : w7.frozen? ⟨g3, 4, none⟩ = false := (hl7.blk HB4.out.b3).frozen 4
  clear hown7 hgrow hat hown6 HLO hI hl7 hown8 HY
  have HB8 := Lib.hid hB8
  clear hB8
  go_upto_region 5 with fail
  generalize w7.setCell ⟨g3, 4, none⟩ (.slice A7 th.length c7) = w8 at *
  clear d4 f4
  obtain ⟨y0, y1, y2, y3, y4, y5, y6⟩ := cells7 HB8.out.b3
  obtain ⟨z0, z1, z2, z3, z4, z5, z6⟩ := zero7 HB8.out.b6
  obtain ⟨f0, f1, f2, f3, f4, f5, f6⟩ := frozen7 HB8.out.b6
  go_wp2_with fail
  refine bodyPost_ret (v := .agg (F.cells ⟨A7, V3.C, c7, V3.cc⟩ n lo keep ⟨th, y.code⟩)) (by simp [results, Tryz.results37, go_sem, z0, z1, z2, z3, z4, z5, z6]; rfl) rfl ?_
  rw [HE.out]
  exact HB8.out.fin
set_option maxHeartbeats 8000000 in
set_option maxRecDepth 100000 in
theorem ref21_drop (F : RsF) (V : RsV) (n : NetD) (lo : Int) (keep : List Int) (x : RtD) (w : World) (hV : V.At x w) (hl : x.code.length ≤ 100000) (ht : x.there.length ≤ 1000) (id : Int) :
    Calls Tryz.prog 39 #[.agg (F.cells V n lo keep x), .int .i64 id] w (RsP F V n lo keep x (Rt.dropD id x) w) := by
  obtain ⟨i0, hi, hz0, hz1, hz2⟩ := info_parts int_info
  have hB := RsB.start (F := F) (n := n) (lo := lo) (keep := keep) hV
  obtain ⟨y0, y1, y2, y3, y4, y5, y6⟩ := cells7 hB.b3
  unfold zeros7 at *
  have HB := Lib.hid hB
  have HV := Lib.hid hV
  clear hB hV
  go_enter Tryz.func39, Tryz.ntmps39
  go_upto_region 1 with fail
  generalize (w.alloc (.cells (F.cells V n lo keep x) 87)).alloc (.cells #[.slice none 0 0, .slice none 0 0, .int .i64 0, .slice none 0 0, .slice none 0 0, .slice none 0 0, .slice none 0 0] 87) = w2 at *
  generalize hg3 : w.heap.size = g3 at *
  have Hg3 := Lib.hid hg3
  clear hg3
  go_wp2_with fail
  refine (ref21_do F V n lo keep x w2 HB.out.aty hl 3 id).mono ?_
  rintro e w3 ⟨V3, rfl, hA3, ho3, hl3⟩
  have hB4 := HB.out.put hl3 hA3 ho3
  unfold set7 at hB4
  obtain ⟨d0, d1, d2, d3, d4, d5, d6⟩ := cells7 (hl3.blk HB.out.b3)
  obtain ⟨f0, f1, f2, f3, f4, f5, f6⟩ := frozen7 (hl3.blk HB.out.b3)
  have HY := Lib.hid (show Rt.dropD id x = ⟨Rf.without (Rt.addD 3 id x).there id, (Rt.addD 3 id x).code⟩ from rfl)
  have hyt : (Rt.addD 3 id x).there.length ≤ 1000 := ht
  rw [show F.cells V3 n lo keep (Rt.addD 3 id x) = #[.slice F.A n.inn.length F.c, .slice F.N n.nodes.length F.d, .int .i64 lo, .slice F.K keep.length F.ck, .slice V3.Th (Rt.addD 3 id x).there.length V3.ct, .slice none 0 0, .slice V3.C (Rt.addD 3 id x).code.length V3.cc] from rfl]
  generalize Rt.addD 3 id x = y at *
  clear y0 y1 y2 y3 y4 y5 y6 hA3 ho3 hl3
  have HB4 := Lib.hid hB4
  clear hB4
  go_upto_region 2 with fail
  clear d0 d1 d2 d3 d4 d5 d6 f0 f1 f2 f3 f4 f5 f6
  generalize ((((((w3.setCell ⟨g3, 0, none⟩ (.slice F.A n.inn.length F.c)).setCell ⟨g3, 1, none⟩ (.slice F.N n.nodes.length F.d)).setCell ⟨g3, 2, none⟩ (.int .i64 lo)).setCell ⟨g3, 3, none⟩ (.slice F.K keep.length F.ck)).setCell ⟨g3, 4, none⟩ (.slice V3.Th y.there.length V3.ct)).setCell ⟨g3, 5, none⟩ (.slice none 0 0)).setCell ⟨g3, 6, none⟩ (.slice V3.C y.code.length V3.cc) = w4 at *
  have HT := Lib.hid HB4.out.aty.there
  have HY4 := Lib.hid (cells7 HB4.out.b3).2.2.2.2.1
  generalize hthl : y.there = l at *
  have Hthl := Lib.hid hthl
  clear hthl
  go_wp2_with fail
  go_loopw [5, 6] (fun o i wx => ∃ k : Nat, k ≤ l.length ∧ i = .int .i64 (k : Int) ∧ wx.ownsRow w4.heap.size 3 1 o (Rf.without (l.take k) id).length ((Rf.without (l.take k) id).map (Value.int .i64)) ∧ Later w4 wx) (fun _ i _ => l.length - (intOf i).toNat)
  case atStart => exact ⟨0, Nat.zero_le _, rfl, by simpa [Rf.without] using World.ownsRow_nil w4 w4.heap.size 3 1, Later.refl _⟩
  case round =>
    obtain ⟨k, hk, rfl, hown, hbx⟩ := hrel
    obtain ⟨Ao, co, rfl⟩ := own_form hown
    have y4 := hbx.cell HY4.out
    have hsb := Below.size hbx
    by_cases hlt : k < l.length
    · obtain ⟨b, off, hb, -, hc⟩ := HT.out.below hbx (Nat.le_refl _) k hlt
      rw [getD_at hlt] at hc
      rw [hb] at y4
      have hsn := Rf.without_take (z := id) hlt
      have hln : (Rf.without (l.take k) id).length ≤ 1000 := by
        have h1 : (Rf.without (l.take k) id).length ≤ (l.take k).length := List.length_filter_le _ _
        simp at h1
        omega
      generalize Rf.without (l.take k) id = r at *
      generalize l[k] = z at *
      by_cases he : z = id
      · have e1 : (z != id) = false := by simp [he]
        rw [if_pos he, List.append_nil] at hsn
        have Hown := Lib.hid hown
        have Hbx := Lib.hid hbx
        have Hsn := Lib.hid hsn
        clear hown hbx hsn
        clear he hb
        go_wp2_with fail
        go_roundw
        case rel => exact ⟨k + 1, by omega, by go_num, by rw [Hsn.out]; exact Hown.out, Hbx.out⟩
        case measure => simp [intOf]; omega
      · have e1 : (z != id) = true := by simp [he]
        rw [if_neg he] at hsn
        have ho := ownsRow_new hown (.cells #[.int .i64 z] 3)
        have hbx2 := hbx.alloc (.cells #[.int .i64 z] 3)
        have HLO := Lib.hid (fun b (hb : (Value.slice Ao r.length co).ownBlock = some b) => (hown.lt b hb).1)
        have Hown := Lib.hid hown
        have Hbx := Lib.hid hbx
        have Hsn := Lib.hid hsn
        clear hown hbx hsn
        clear he hb
        go_wp2_with (at_builtin; refine wpList_append_own_at _ rfl _ _ 22 rfl w4.heap.size 3 i0 (.int .i64 0) 1 8 Tryz.underlying22 hi hz0 hz1 hz2 rfl (by decide) _ _ _ rfl ho ⟨wr.heap.size, 0, none⟩ 1 1 [.int .i64 z] rfl rfl ?c1 (by intro u hu; simp at hu; subst hu; rfl) (by unfold maxLen; omega) (by omega) ?c2 ?_)
        first | (case c1 => exact one_new wr _ _) | skip
        case c2 => simp; omega
        intro v' w5 hown' hgrow _ hat
        have hb3 : Later w4 w5 := Below.grown hbx2 hgrow (by simp; omega) (fun b hb => HLO.out b hb)
        have hown2 : w5.ownsRow w4.heap.size 3 1 v' (r ++ [z]).length ((r ++ [z]).map (Value.int .i64)) := by simpa using hown'
        rw [← Hsn.out] at hown2
        have Hown2 := Lib.hid hown2
        have Hb3 := Lib.hid hb3
        clear hown2 hb3
        clear hown' hgrow hat ho hbx2 HLO
        go_wp2_with fail
        go_roundw
        case rel => exact ⟨k + 1, by omega, by go_num, Hown2.out, Hb3.out⟩
        case measure => simp [intOf]; omega
    · obtain rfl : k = l.length := by omega
      rw [List.take_length] at hown ⊢
      obtain ⟨th, hth⟩ : ∃ th, Rf.without l id = th := ⟨_, rfl⟩
      have HE := Lib.hid (HY.out.trans (by rw [hth]))
      rw [hth] at hown ⊢
      clear hth
      obtain ⟨q1, -, -⟩ := own_ints hown
      have hB8 := HB4.out.there hbx (c := co) q1 (own_at hown)
      have f4 : wr.frozen? ⟨g3, 4, none⟩ = false := (hbx.blk HB4.out.b3).frozen 4
      clear hown hbx q1 HY
      have HB8 := Lib.hid hB8
      clear hB8
      go_upto_region 9 with fail
      generalize wr.setCell ⟨g3, 4, none⟩ (.slice Ao th.length co) = w8 at *
      clear y4 f4
      obtain ⟨y0, y1, y2, y3, y4, y5, y6⟩ := cells7 HB8.out.b3
      obtain ⟨z0, z1, z2, z3, z4, z5, z6⟩ := zero7 HB8.out.b6
      obtain ⟨f0, f1, f2, f3, f4, f5, f6⟩ := frozen7 HB8.out.b6
      go_wp2_with fail
      refine bodyPost_ret (v := .agg (F.cells ⟨Ao, V3.C, co, V3.cc⟩ n lo keep ⟨th, y.code⟩)) (by simp [results, Tryz.results39, go_sem, z0, z1, z2, z3, z4, z5, z6]; rfl) rfl ?_
      rw [HE.out]
      exact HB8.out.fin
end Go.Proofs.YtnffjfjhbjeaiaaGreatDoor
/- The reference of layer 21: pending, fetch: contracts. -/
namespace Go.Proofs.YtnffjfjhbjeaiaaGreatDoor
open Go.RowKit
theorem Rt.pend_snoc {I : Int → List Int} {id : Int} {l : List Int} {k : Nat} (h : k < l.length) (hp : pend I id (l.take k) = false) : pend I id (l.take (k + 1)) = (I l[k]).contains id := by
  unfold pend at *
  rw [List.take_succ_eq_append_getElem h, List.any_append, hp]
  simp
theorem Rt.pend_hit {I : Int → List Int} {id : Int} {l : List Int} {k : Nat} (h : k < l.length) (hp : (I l[k]).contains id = true) : pend I id l = true := by
  unfold pend
  rw [List.any_eq_true]
  exact ⟨l[k], List.getElem_mem h, hp⟩
set_option maxHeartbeats 8000000 in
set_option maxRecDepth 100000 in
theorem ref21_pending (A N M : Option Addr) (c d m : Nat) (n : NetD) (id : Int) (am : List Int) (w0 w : World) (hok : n.ok) (hR : NetR w0 A N n) (hM : Ints .i64 w0 M am) (hl0 : Later w0 w) (hal : am.length ≤ 1000) (hrng : ∀ u ∈ am, 1 ≤ u ∧ u ≤ n.nodes.length) :
    Calls Tryz.prog 38 #[.agg #[.slice A n.inn.length c, .slice N n.nodes.length d], .int .i64 id, .slice M am.length m] w fun e w' => e = .returned (.bool (Rt.pend (Nt.insF n.nodes) id am)) ∧ Later w w' := by
  have hnl := hok.2.1
  have hl1 : Later w (w.alloc (.cells #[.slice A n.inn.length c, .slice N n.nodes.length d] 39)) := (Later.refl w).alloc _
  have hk1 := Blk.new w 39 #[.slice A n.inn.length c, .slice N n.nodes.length d]
  have hR1 := hR.below (hl0.trans hl1) (Nat.le_refl _)
  have hM1 := hM.below (hl0.trans hl1) (Nat.le_refl _)
  have Hok := Lib.hid hok
  have HR1 := Lib.hid hR1
  have HM1 := Lib.hid hM1
  have Hl1 := Lib.hid hl1
  have Hk1 := Lib.hid hk1
  have Hrng := Lib.hid hrng
  clear hok hR1 hM1 hl1 hk1 hrng
  clear hR hM hl0
  go_enter Tryz.func38, Tryz.ntmps38
  go_wp2_with fail
  generalize w.alloc (.cells #[.slice A n.inn.length c, .slice N n.nodes.length d] 39) = w1 at *
  go_loopw [7] (fun i wx => ∃ k : Nat, k ≤ am.length ∧ i = .int .i64 (k : Int) ∧ Rt.pend (Nt.insF n.nodes) id (am.take k) = false ∧ Later w1 wx) (fun i _ => am.length - (intOf i).toNat)
  case atStart => exact ⟨0, Nat.zero_le _, rfl, rfl, Later.refl _⟩
  case round =>
    obtain ⟨k, hk, rfl, hno, hlw⟩ := hrel
    by_cases hlt : k < am.length
    · obtain ⟨b, off, rfl, -, hc⟩ := HM1.out.below hlw (Nat.le_refl _) k hlt
      rw [getD_at hlt] at hc
      have hr := Hrng.out _ (List.getElem_mem hlt)
      have hpt := Rt.pend_snoc hlt hno
      have hph := Rt.pend_hit (I := Nt.insF n.nodes) (id := id) hlt
      obtain ⟨j, hj⟩ : ∃ j : Nat, am[k] = (j : Int) + 1 := ⟨(am[k] - 1).toNat, by omega⟩
      have hjl : j < n.nodes.length := by omega
      have hiF : Nt.insF n.nodes am[k] = n.nodes[j].ins := by unfold Nt.insF; rw [hj, Nt.node_at hjl]
      rw [hiF] at hpt hph
      rw [hj] at hc
      obtain ⟨b1, off1, J, jc, rfl, y8, hJ⟩ := (HR1.out.below hlw (Nat.le_refl _)).ins_at hjl
      have hil := (Hok.out.2.2 _ (List.getElem_mem hjl)).2.2.1
      generalize n.nodes[j].ins = il at *
      have x1 : wr.cell? ⟨w.heap.size, 1, none⟩ = some (.slice (some ⟨b1, off1, none⟩) n.nodes.length d) := by rw [(hlw.blk Hk1.out).cell]; rfl
      have HCall := Lib.hid (fun q => ref18_has J jc il id (wr.drewN q) (by omega) (hJ.drewN q))
      have j1 : IntKind.i64.wrap ((j : Int) + 1 - 1) = (j : Int) := by rw [IntWalk.i64_in _ (by omega)]; omega
      have j0 : (0 : Int) ≤ (j : Int) := by omega
      have j2 : (j : Int) < n.nodes.length := by omega
      have k0 : (k : Int) < (am.length : Int) := by omega
      have hl2 := Lib.hid (fun n => hlw.trans (Later.drewN (Later.refl _) n))
      by_cases hh : hasB il id = true
      · have HE := Lib.hid (hph hh)
        rw [hh] at HCall
        clear hh hpt hph hno hlw hiF hj hr hJ
        go_wp2_with fail
        go_quiet ((go_at_call 24; exact quiet_same (HCall.out _)))
        go_wp2_with fail
        go_ret
        exact ⟨by rw [HE.out]; rfl, Hl1.out.trans (hl2.out _)⟩
      · have hf : hasB il id = false := by simpa using hh
        have HE := Lib.hid (hpt.trans hf)
        rw [hf] at HCall
        clear hh hf hpt hph hno hlw hiF hj hr hJ
        go_wp2_with fail
        go_quiet ((go_at_call 24; exact quiet_same (HCall.out _)))
        go_wp2_with fail
        go_roundw
        case rel => exact ⟨k + 1, by omega, by go_num, HE.out, hl2.out _⟩
        case measure => simp [intOf]; omega
    · obtain rfl : k = am.length := by omega
      rw [List.take_length] at hno
      have HE := Lib.hid hno
      have HL := Lib.hid (Hl1.out.trans hlw)
      clear hno hlw
      go_wp2_with fail
      go_ret
      exact ⟨by rw [HE.out]; rfl, HL.out⟩
theorem Rt.fetchD_step {I : Int → List Int} (m : Nat) (id : Int) (x : RtD) : fetchD I (m + 1) id x = if id = 0 ∨ x.there.contains id = true then x else compD 2 id ((I id).foldl (fun x i => fetchD I m i x) x) := rfl
set_option maxHeartbeats 8000000 in
set_option maxRecDepth 100000 in
theorem ref21_stay (F : RsF) (n : NetD) (lo : Int) (keep : List Int) (id : Nat) (x : RtD) (V : RsV) (w : World) (hV : V.At x w) (ht : x.there.length ≤ 1000) (hs : id = 0 ∨ hasB x.there id = true) :
    Calls Tryz.prog 41 #[.agg (F.cells V n lo keep x), .int .i64 id] w (RsP F V n lo keep x x w) := by
  have hB := RsB.start (F := F) (n := n) (lo := lo) (keep := keep) hV
  unfold zeros7 at *
  have HB := Lib.hid hB
  clear hB
  clear hV
  by_cases h0 : id = 0
  · subst h0
    clear hs
    go_enter Tryz.func41, Tryz.ntmps41
    go_upto_region 1 with fail
    generalize (w.alloc (.cells (F.cells V n lo keep x) 87)).alloc (.cells #[.slice none 0 0, .slice none 0 0, .int .i64 0, .slice none 0 0, .slice none 0 0, .slice none 0 0, .slice none 0 0] 87) = w2 at *
    generalize w.heap.size = g3 at *
    obtain ⟨y0, y1, y2, y3, y4, y5, y6⟩ := cells7 HB.out.b3
    obtain ⟨z0, z1, z2, z3, z4, z5, z6⟩ := zero7 HB.out.b6
    obtain ⟨f0, f1, f2, f3, f4, f5, f6⟩ := frozen7 HB.out.b6
    go_wp2_with fail
    refine bodyPost_ret (v := .agg (F.cells V n lo keep x)) (by simp [results, Tryz.results41, go_sem, z0, z1, z2, z3, z4, z5, z6]; rfl) rfl ?_
    exact HB.out.fin
  · have hh : hasB x.there id = true := hs.resolve_left h0
    have e1 : ((id : Int) == 0) = false := by simp [h0]
    have Hh := Lib.hid hh
    clear hh
    clear hs h0
    go_enter Tryz.func41, Tryz.ntmps41
    go_upto_region 1 with fail
    generalize (w.alloc (.cells (F.cells V n lo keep x) 87)).alloc (.cells #[.slice none 0 0, .slice none 0 0, .int .i64 0, .slice none 0 0, .slice none 0 0, .slice none 0 0, .slice none 0 0] 87) = w2 at *
    generalize w.heap.size = g3 at *
    obtain ⟨y0, y1, y2, y3, y4, y5, y6⟩ := cells7 HB.out.b3
    obtain ⟨z0, z1, z2, z3, z4, z5, z6⟩ := zero7 HB.out.b6
    obtain ⟨f0, f1, f2, f3, f4, f5, f6⟩ := frozen7 HB.out.b6
    go_wp2_with fail
    refine (ref18_has V.Th V.ct x.there id w2 (by omega) HB.out.aty.there).mono ?_
    rintro e w3 ⟨rfl, rfl⟩
    rw [Hh.out]
    go_wp2_with fail
    refine bodyPost_ret (v := .agg (F.cells V n lo keep x)) (by simp [results, Tryz.results41, go_sem, z0, z1, z2, z3, z4, z5, z6]; rfl) rfl ?_
    exact HB.out.fin
theorem Rt.foldD_bd {I : Int → List Int} {m : Nat} {id : Int} {x : RtD} {il : List Int} (k : Nat) (h1 : (compD 2 id (il.foldl (fun x i => fetchD I m i x) x)).code.length ≤ 50000) (h2 : (compD 2 id (il.foldl (fun x i => fetchD I m i x) x)).there.length ≤ 1000) :
    ((il.take k).foldl (fun x i => fetchD I m i x) x).code.length ≤ 49999 ∧ ((il.take k).foldl (fun x i => fetchD I m i x) x).there.length ≤ 999 := by
  have h3 := take_monoD (I := I) (m := m) il k x
  have h4 : (compD 2 id (il.foldl (fun x i => fetchD I m i x) x)).code.length = (il.foldl (fun x i => fetchD I m i x) x).code.length + 1 := by unfold compD; simp
  have h5 : (compD 2 id (il.foldl (fun x i => fetchD I m i x) x)).there.length = (il.foldl (fun x i => fetchD I m i x) x).there.length + 1 := by unfold compD; simp
  omega
set_option maxHeartbeats 8000000 in
set_option maxRecDepth 100000 in
theorem ref21_fetch (F : RsF) (n : NetD) (lo : Int) (keep : List Int) (w0 : World) (hok : n.ok) (hck : Nt.check n = 0) (hR : NetR w0 F.A F.N n) : ∀ (m : Nat) (id : Nat) (x : RtD) (V : RsV) (w : World), Later w0 w → V.At x w → id ≤ n.nodes.length → (id = 0 ∨ Rt.rank n id < m) → (Rt.fetchD (Nt.insF n.nodes) m id x).code.length ≤ 50000 → (Rt.fetchD (Nt.insF n.nodes) m id x).there.length ≤ 1000 →
    Calls Tryz.prog 41 #[.agg (F.cells V n lo keep x), .int .i64 id] w (RsP F V n lo keep x (Rt.fetchD (Nt.insF n.nodes) m id x) w) := by
  intro m
  induction m with
  | zero =>
    intro id x V w hlw hV hid hr h1 h2
    obtain rfl : id = 0 := by omega
    exact ref21_stay F n lo keep 0 x V w hV h2 (.inl rfl)
  | succ m ih =>
    intro id x V w hlw hV hid hr h1 h2
    by_cases hs : (id : Int) = 0 ∨ x.there.contains (id : Int) = true
    · rw [Rt.fetchD_step, if_pos hs] at h2 ⊢
      exact ref21_stay F n lo keep id x V w hV h2 (hs.elim (fun h => .inl (by omega)) (fun h => .inr h))
    have hq := (Rt.fetchD_step (I := Nt.insF n.nodes) m (id : Int) x).trans (if_neg hs)
    have hno : hasB x.there id = false := by
      cases h : hasB x.there id
      · rfl
      · exact absurd (.inr h) hs
    have hn0 : ¬ id = 0 := fun h => hs (.inl (by omega))
    obtain ⟨j, rfl⟩ : ∃ j, id = j + 1 := ⟨id - 1, by omega⟩
    have hj : j < n.nodes.length := by omega
    have hiF := Rt.insF_at (n := n) hj
    rw [hiF] at hq
    rw [hq] at h1 h2 ⊢
    have hbd := fun k => Rt.foldD_bd (I := Nt.insF n.nodes) (m := m) (id := ((j + 1 : Nat) : Int)) (x := x) (il := n.nodes[j].ins) k h1 h2
    have hxl := hbd 0
    rw [List.take_zero, List.foldl_nil] at hxl
    have hlt : ∀ i ∈ n.nodes[j].ins, i ≠ 0 → Rt.rank n i < m := fun i hi h0 => by
      have h1 := (Rt.net_ok hck).lt ((j + 1 : Nat) : Int) (by omega) (by omega) i (by rw [hiF]; exact hi) h0
      have h2 : Rt.rank n ((j + 1 : Nat) : Int) < m + 1 := by rcases hr with h | h <;> omega
      omega
    have hrng := Rt.ins_rng hck hj
    obtain ⟨b, off, J, jc, hN, y8, hJ⟩ := hR.ins_at hj
    have hil := (hok.2.2 _ (List.getElem_mem hj)).2.2.1
    have htk := fun k (h : k < n.nodes[j].ins.length) => Rt.foldD_take (I := Nt.insF n.nodes) (m := m) h x
    have hB := RsB.start (F := F) (n := n) (lo := lo) (keep := keep) hV
    have hlB : Later w0 _ := hlw.trans hB.later
    have hN2 := hok.2.1
    generalize n.nodes[j].ins = il at *
    have hj0 : ((j + 1 : Nat) : Int) = (j : Int) + 1 := by omega
    rw [hj0] at hno hq ⊢
    have e1 : ((j : Int) + 1 == 0) = false := by rw [beq_eq_false_iff_ne]; omega
    have j1 : IntKind.i64.wrap ((j : Int) + 1 - 1) = (j : Int) := by rw [IntWalk.i64_in _ (by omega)]; omega
    have j3 : (0 : Int) ≤ (j : Int) := by omega
    have j4 : (j : Int) < n.nodes.length := by omega
    unfold zeros7 at *
    have Hno := Lib.hid hno
    have Hbd := Lib.hid hbd
    have Hlt := Lib.hid hlt
    have Hrng := Lib.hid hrng
    have HJ := Lib.hid hJ
    have Htk := Lib.hid htk
    have HB := Lib.hid hB
    have HlB := Lib.hid hlB
    have Hih := Lib.hid ih
    have Hq := Lib.hid hq
    clear hno hbd hlt hrng hJ htk hB hlB ih hq
    have HLw := Lib.hid hlw
    clear hs hn0 hr hiF hV hlw h1 h2 hR hj0
    go_enter Tryz.func41, Tryz.ntmps41
    go_upto_region 1 with fail
    generalize (w.alloc (.cells (F.cells V n lo keep x) 87)).alloc (.cells #[.slice none 0 0, .slice none 0 0, .int .i64 0, .slice none 0 0, .slice none 0 0, .slice none 0 0, .slice none 0 0] 87) = w2 at *
    generalize w.heap.size = g3 at *
    obtain ⟨y0, y1, y2, y3, y4, y5, y6⟩ := cells7 HB.out.b3
    have x8 := HlB.out.cell y8
    rw [hN] at y1
    clear hN
    go_wp2_with fail
    refine (ref18_has V.Th V.ct x.there _ w2 (by omega) HB.out.aty.there).mono ?_
    rintro e w3 ⟨rfl, rfl⟩
    rw [Hno.out]
    go_wp2_with fail
    clear x8 y0 y1 y2 y3 y4 y5 y6
    go_loopw [6] (fun t wx => ∃ (k : Nat) (V2 : RsV), k ≤ il.length ∧ t = .int .i64 (k : Int) ∧ RsB g3 (g3 + 1) F V n lo keep x V2 ((il.take k).foldl (fun x i => Rt.fetchD (Nt.insF n.nodes) m i x) x) w wx ∧ Later w0 wx) (fun t _ => il.length - (intOf t).toNat)
    case atStart => exact ⟨0, V, Nat.zero_le _, rfl, HB.out, HlB.out⟩
    case round =>
      obtain ⟨k, V2, hk, rfl, hBk, hlk⟩ := hrel
      have hbk := Hbd.out k
      obtain ⟨y0, y1, y2, y3, y4, y5, y6⟩ := cells7 hBk.b3
      by_cases hlt : k < il.length
      · obtain ⟨b2, off2, hJe, -, hc⟩ := HJ.out.below hlk (Nat.le_refl _) k hlt
        rw [getD_at hlt] at hc
        have hr := Hrng.out _ (List.getElem_mem hlt)
        obtain ⟨u, hu⟩ := Int.eq_ofNat_of_zero_le hr.1
        have htk := Htk.out k hlt
        have hbk1 := Hbd.out (k + 1)
        have hrk := Hlt.out _ (List.getElem_mem hlt)
        rw [htk] at hbk1
        have HTK := Lib.hid htk
        rw [hu] at hc hr hbk1 hrk HTK
        generalize (il.take k).foldl (fun x i => Rt.fetchD (Nt.insF n.nodes) m i x) x = y at *
        have hld : Later wr wr.drew := (Later.refl _).drew
        have hBd := hBk.to_later hld
        have HCall := Lib.hid (Hih.out u y V2 wr.drew (hlk.trans hld) hBd.aty (by omega) (by
          rcases Nat.eq_zero_or_pos u with h0 | h0
          · exact .inl h0
          · exact .inr (hrk (by omega))) (by omega) (by omega))
        have k0 : (k : Int) < il.length := by omega
        have hlk2 := hlk.trans hld
        subst hJe
        have HBd := Lib.hid hBd
        have Hlk2 := Lib.hid hlk2
        clear hBd hlk2
        clear htk hu hrk hlk hBk hld hbk1 hbk
        go_upto_region 7 with fail
        go_still_tail 5, (by kernel_rfl)
        change wpList _ _ _ _ _ wr.drew
        clear y0 y1 y2 y3 y4 y5 y6 hc
        generalize wr.drew = wd at *
        go_wp2_with fail
        refine HCall.out.mono ?_
        rintro e w4 ⟨V3, rfl, hA3, ho3, hl3⟩
        have hB4 := HBd.out.put hl3 hA3 ho3
        obtain ⟨d0, d1, d2, d3, d4, d5, d6⟩ := cells7 (hl3.blk HBd.out.b3)
        obtain ⟨f0, f1, f2, f3, f4, f5, f6⟩ := frozen7 (hl3.blk HBd.out.b3)
        have hl5 := (Hlk2.out.trans hl3)
        rw [← HTK.out] at hB4
        rw [← HTK.out]
        have HL5 := Lib.hid (fun a0 a1 a2 a3 a4 a5 a6 => later7 (g := g3) hl5 (Nat.le_trans (Below.size HLw.out) HBd.out.hh) a0 a1 a2 a3 a4 a5 a6)
        generalize hy3 : (il.take (k + 1)).foldl (fun x i => Rt.fetchD (Nt.insF n.nodes) m i x) x = y3 at *
        have HY3 := Lib.hid hy3
        clear hy3
        rw [show F.cells V3 n lo keep y3 = #[.slice F.A n.inn.length F.c, .slice F.N n.nodes.length F.d, .int .i64 lo, .slice F.K keep.length F.ck, .slice V3.Th y3.there.length V3.ct, .slice none 0 0, .slice V3.C y3.code.length V3.cc] from rfl]
        unfold set7 at hB4
        have HB4 := Lib.hid hB4
        clear hB4
        clear hA3 ho3 hl3 hl5 HTK HCall
        go_wp2_with fail
        go_roundw
        case rel => exact ⟨k + 1, V3, by omega, by go_num, by rw [HY3.out]; exact HB4.out, HL5.out _ _ _ _ _ _ _⟩
        case measure => simp [intOf]; omega
      · obtain rfl : k = il.length := by omega
        rw [List.take_length] at hBk hbk y4 y6
        have HRk := Lib.hid (ref21_reckon F V2 n lo keep _ wr hBk.aty (by omega) (by omega) 2 ((j : Int) + 1))
        generalize hy : il.foldl (fun x i => Rt.fetchD (Nt.insF n.nodes) m i x) x = y at *
        have HBk := Lib.hid hBk
        have Hy := Lib.hid hy
        clear hBk hy
        clear hlk hbk
        go_wp2_with fail
        refine HRk.out.mono ?_
        rintro e w4 ⟨V3, rfl, hA3, ho3, hl3⟩
        obtain ⟨z0, z1, z2, z3, z4, z5, z6⟩ := zero7 (hl3.blk HBk.out.b6)
        obtain ⟨f0, f1, f2, f3, f4, f5, f6⟩ := frozen7 (hl3.blk HBk.out.b6)
        have HFi := Lib.hid (HBk.out.fin2 hl3 hA3 ho3)
        clear hA3 ho3 hl3 y0 y1 y2 y3 y4 y5 y6 HRk
        generalize hy3 : Rt.compD 2 ((j : Int) + 1) y = y3 at *
        have Hy3 := Lib.hid hy3
        clear hy3
        rw [show F.cells V3 n lo keep y3 = #[.slice F.A n.inn.length F.c, .slice F.N n.nodes.length F.d, .int .i64 lo, .slice F.K keep.length F.ck, .slice V3.Th y3.there.length V3.ct, .slice none 0 0, .slice V3.C y3.code.length V3.cc] from rfl]
        go_wp2_with fail
        refine bodyPost_ret (v := .agg (F.cells V3 n lo keep y3)) (by simp [results, Tryz.results41, go_sem, z0, z1, z2, z3, z4, z5, z6]; rfl) rfl ?_
        rw [Hy.out, Hy3.out]
        exact HFi.out
end Go.Proofs.YtnffjfjhbjeaiaaGreatDoor
