/- Lemmas for the statements of this seat: contracts of functions and the plain laws. -/
import Derived.Deep.AppendLies
import Derived.Deep.RegionHeld3
import Derived.Test.YtjkhpbngpceenaaZ08
set_option linter.unusedVariables false
/- The reference of layer 13: contracts. -/
namespace Go.Proofs.Ytjkhpbngpceenaa
open Go.RowKit
set_option maxRecDepth 20000 in
set_option maxHeartbeats 8000000 in
theorem ref13_words (A N : Option Addr) (c d : Nat) (n : NetD) (w : World) (hok : n.ok) (hR : NetR w A N n) (hd : n.nodes.length ≤ d) (hc : n.inn.length ≤ c) (hcm : c ≤ 9223372036854775807) (hck : Nt.check n = 0) :
    Calls Try.prog 33 #[.agg #[.slice A n.inn.length c, .slice N n.nodes.length d]] w (SortPost (Nt.words n) w) := by
  obtain ⟨i0, hi, hz0, hz1, hz2⟩ := info_parts int_info
  have hnl := (Nt.check_ok hck).2.1
  have hl0 : Later w (w.alloc (.cells #[.slice A n.inn.length c, .slice N n.nodes.length d] 37)) := (Later.refl w).alloc _
  have HR := Lib.hid hR
  have Hl0 := Lib.hid hl0
  have Hok := Lib.hid hok
  have Hck := Lib.hid hck
  clear hR hl0 hok hck
  go_enter Try.func33, Try.ntmps33
  go_wp2_with fail
  generalize w.alloc (.cells #[.slice A n.inn.length c, .slice N n.nodes.length d] 37) = w1 at *
  refine (ref11_check A N c d n w1 Hok.out (HR.out.below Hl0.out (Nat.le_refl _)) hd hc hcm).mono ?_
  rintro e w2 ⟨hb2, ⟨-, g, rfl, -, hrow⟩ | ⟨hc', -⟩⟩
  rotate_left
  · exact absurd Hck.out hc'
  have hl2 := Hl0.out.call hb2
  have hsl := Nt.shapes_len Hck.out
  have hsr := Nt.shapes_all Hck.out
  have hwd : (Nt.shapes n).map Safe.prod = Nt.words n := rfl
  clear hb2
  generalize Nt.shapes n = sh at *
  have hsl2 : sh.length ≤ 513 := by omega
  rw [← hsl]
  have Hl2 := Lib.hid hl2
  have Hrow := Lib.hid hrow
  have Hsl := Lib.hid hsl
  have Hsr := Lib.hid hsr
  have Hwd := Lib.hid hwd
  clear hl2 hrow hsl hsr hwd
  go_wp2_with fail
  go_loopw [6, 7] (fun o i wx => ∃ k : Nat, k ≤ sh.length ∧ i = .int .i64 (k : Int) ∧ wx.ownsRow w2.heap.size 3 1 o k (intV ((sh.take k).map Safe.prod)) ∧ Later w2 wx) (fun _ i _ => sh.length - (intOf i).toNat)
  case atStart => exact ⟨0, Nat.zero_le _, rfl, by simpa [intV] using World.ownsRow_nil w2 w2.heap.size 3 1, Later.refl _⟩
  case round =>
    obtain ⟨k, hk, rfl, hown, hlw⟩ := hrel
    obtain ⟨Ao, co, rfl⟩ := own_form hown
    by_cases hlt : k < sh.length
    · have hrs := Hsr.out _ (List.getElem_mem hlt)
      obtain ⟨S, sc, y, hI, h1, h2, -⟩ := (Hrow.out.below hlw (Nat.le_refl _)).at_ hlt
      have hsn : intV ((sh.take (k + 1)).map Safe.prod) = intV ((sh.take k).map Safe.prod) ++ [.int .i64 (Safe.prod sh[k])] := by rw [List.take_succ_eq_append_getElem hlt, List.map_append, List.map_singleton, intV_snoc]
      generalize sh[k] = s at *
      generalize intV ((sh.take k).map Safe.prod) = vs at *
      have k0 : (k : Int) < (sh.length : Int) := by omega
      have Hown := Lib.hid hown
      have Hlw := Lib.hid hlw
      have Hrs := Lib.hid hrs
      have HI := Lib.hid hI
      have Hsn := Lib.hid hsn
      clear hown hlw hrs hI hsn
      go_wp2_with fail
      refine (ref03_size S sc s _ Hrs.out HI.out).mono ?_
      rintro e w3 ⟨rfl, rfl⟩
      have ho := ownsRow_new Hown.out (.cells #[.int .i64 (Safe.prod s)] 3)
      have hbx2 := Hlw.out.alloc (.cells #[.int .i64 (Safe.prod s)] 3)
      have hsz := hbx2.size
      rw [World.size_alloc] at hsz
      have HLO := Lib.hid (fun b (hb : (Value.slice Ao k co).ownBlock = some b) => (Hown.out.lt b hb).1)
      go_wp2_with (at_builtin; refine wpList_append_own_at _ rfl _ _ 22 rfl w2.heap.size 3 i0 (.int .i64 0) 1 8 Try.underlying22 hi hz0 hz1 hz2 rfl (by decide) _ _ _ rfl ho ⟨wr.heap.size, 0, none⟩ 1 1 [.int .i64 (Safe.prod s)] rfl rfl ?c1 (by intro u hu; simp at hu; subst hu; rfl) (by unfold maxLen; omega) (by omega) ?c2 ?_)
      first | (case c1 => exact one_new wr _ _) | skip
      case c2 => simp; omega
      intro v' w4 hown' hgrow _ hat
      have hl4 : Later w2 w4 := Below.grown hbx2 hgrow (by simp; omega) (fun b hb => HLO.out b hb)
      rw [← Hsn.out] at hown'
      have Hown' := Lib.hid hown'
      have Hl4 := Lib.hid hl4
      clear hown' hl4
      clear hgrow hat ho hbx2 HLO
      go_wp2_with fail
      go_roundw
      case rel => exact ⟨k + 1, by omega, by go_num, Hown'.out, Hl4.out⟩
      case measure => simp [intOf]; omega
    · obtain rfl : k = sh.length := by omega
      rw [List.take_length] at hown
      have hq := Hwd.out
      have hwl : (Nt.words n).length = sh.length := by rw [← hq]; simp
      rw [hq] at hown
      rw [← hwl] at hown
      have hown2 : wr.ownsRow w2.heap.size 3 1 (.slice Ao (Nt.words n).length co) (Nt.words n).length ((Nt.words n).map (Value.int .i64)) := hown
      obtain ⟨q1, q2, q3⟩ := own_ints hown2
      have hl := Hl2.out.trans hlw
      rw [← hwl]
      have Hown := Lib.hid hown
      have Hown2 := Lib.hid hown2
      have Hq := Lib.hid hq
      have Hq1 := Lib.hid q1
      have Hq2 := Lib.hid q2
      have Hq3 := Lib.hid q3
      have Hlw := Lib.hid hlw
      have Hl := Lib.hid hl
      have Hwl := Lib.hid hwl
      clear hown hown2 hq q1 q2 q3 hlw hl hwl
      go_wp2_with fail
      go_ret
      exact ⟨Ao, co, rfl, Hq1.out, Hq2.out, Hq3.out, Hl.out⟩
set_option maxRecDepth 20000 in
theorem ref13_sum (A : Option Addr) (c : Nat) (l : List Int) (w : World) (hl : l.length ≤ 1000000) (hb : ∀ x ∈ l, 0 ≤ x ∧ x ≤ 4294967296) (hI : Ints .i64 w A l) :
    Calls Try.prog 36 #[.slice A l.length c] w fun e w' => e = .returned (.int .i64 (Safe.sum l)) ∧ w = w' := by
  have hs : ∀ k, 0 ≤ Safe.sum (l.take k) ∧ Safe.sum (l.take k) ≤ 4294967296000000 := fun k => by
    have h := Nt.sum_bd (l := l.take k) fun x hx => hb x (List.mem_of_mem_take hx)
    have h2 : ((l.take k).length : Int) * 4294967296 ≤ 1000000 * 4294967296 := Int.mul_le_mul_of_nonneg_right (by simp; omega) (by omega)
    omega
  have hsn : ∀ k (hk : k < l.length), Safe.sum (l.take (k + 1)) = Safe.sum (l.take k) + l[k] := fun k hk => by
    rw [List.take_succ_eq_append_getElem hk]
    have : ∀ (a : List Int) (x : Int), Safe.sum (a ++ [x]) = Safe.sum a + x := fun a x => by
      induction a with
      | nil => simp [Safe.sum]
      | cons y r ih => simp only [List.cons_append, Safe.sum, ih]; omega
    exact this _ _
  have Hb := Lib.hid hb
  have HI := Lib.hid hI
  have Hs := Lib.hid hs
  have Hsn := Lib.hid hsn
  clear hb hI hs hsn
  go_enter Try.func36, Try.ntmps36
  go_wp2_with fail
  go_loop [3, 4] (fun t i => ∃ k : Nat, k ≤ l.length ∧ i = .int .i64 (k : Int) ∧ t = .int .i64 (Safe.sum (l.take k))) (fun _ i => l.length - (intOf i).toNat)
  case atStart => exact ⟨0, Nat.zero_le _, rfl, rfl⟩
  case round =>
    obtain ⟨k, hk, rfl, rfl⟩ := hrel
    by_cases hlt : k < l.length
    · obtain ⟨b, off, rfl, -, hc⟩ := HI.out k hlt
      rw [getD_at hlt] at hc
      have h1 := Hs.out k
      have h2 := Hb.out _ (List.getElem_mem hlt)
      have h3 := Hsn.out k hlt
      generalize Safe.sum (l.take k) = t at *
      generalize l[k] = x at *
      have k0 : (k : Int) < (l.length : Int) := by omega
      have H3 := Lib.hid h3
      clear h3
      go_wp2_with fail
      go_round
      case rel => exact ⟨k + 1, by omega, by go_num, by rw [H3.out]⟩
      case measure => simp [intOf]; omega
    · obtain rfl : k = l.length := by omega
      rw [List.take_length]
      go_wp2_with fail
      go_ret
      exact ⟨rfl, rfl⟩
set_option maxRecDepth 20000 in
set_option maxHeartbeats 16000000 in
theorem ref13_cost (A N : Option Addr) (c d : Nat) (n : NetD) (w : World) (hok : n.ok) (hR : NetR w A N n) (hd : n.nodes.length ≤ d) (hc : n.inn.length ≤ c) (hcm : c ≤ 9223372036854775807) (hck : Nt.check n = 0) :
    Calls Try.prog 34 #[.agg #[.slice A n.inn.length c, .slice N n.nodes.length d]] w (SortPost (Nt.costs n) w) := by
  obtain ⟨i0, hi, hz0, hz1, hz2⟩ := info_parts int_info
  have hnl := (Nt.check_ok hck).2.1
  have hk0 := Blk.new w 37 #[.slice A n.inn.length c, .slice N n.nodes.length d]
  have hl0 : Later w (w.alloc (.cells #[.slice A n.inn.length c, .slice N n.nodes.length d] 37)) := (Later.refl w).alloc _
  have HR := Lib.hid hR
  have Hl0 := Lib.hid hl0
  have Hok := Lib.hid hok
  have Hck := Lib.hid hck
  have Hk0 := Lib.hid hk0
  clear hR hl0 hok hck hk0
  go_enter Try.func34, Try.ntmps34
  go_wp2_with fail
  generalize w.alloc (.cells #[.slice A n.inn.length c, .slice N n.nodes.length d] 37) = w1 at *
  refine (ref11_check A N c d n w1 Hok.out (HR.out.below Hl0.out (Nat.le_refl _)) hd hc hcm).mono ?_
  rintro e w2 ⟨hb2, ⟨-, g, rfl, -, hrow⟩ | ⟨hc', -⟩⟩
  rotate_left
  · exact absurd Hck.out hc'
  have hl2 := Hl0.out.call hb2
  have hk2 := (show Later w1 w2 from hb2).blk Hk0.out
  have hsl := Nt.shapes_len Hck.out
  have hnode := fun k hk => @Nt.shapes_node n Hck.out k hk
  have hsn := fun k hk => @Nt.costsTo_succ n k hk
  clear hb2
  generalize Nt.shapes n = sh at *
  rw [← hsl]
  have hl2a : Later w2 (w2.alloc (.cells #[.int .i64 0] 3)) := (Later.refl w2).alloc _
  have hown0 : (w2.alloc (.cells #[.int .i64 0] 3)).ownsRow w2.heap.size 3 1 (.slice (some ⟨w2.heap.size, 0, none⟩) 1 1) (0 + 1) (intV (0 :: Nt.costsTo n 0)) := ⟨rfl, .inr ⟨w2.heap.size, 1, #[.int .i64 0], rfl, Nat.le_refl _, heap_alloc_new w2 _, Nat.le_refl _, by decide, rfl, rfl⟩⟩
  have Hl2 := Lib.hid hl2
  have Hrow := Lib.hid hrow
  have Hsl := Lib.hid hsl
  have Hnode := Lib.hid hnode
  have Hsn := Lib.hid hsn
  have Hk2 := Lib.hid hk2
  have Hl2a := Lib.hid hl2a
  have Hown0 := Lib.hid hown0
  clear hl2 hrow hsl hnode hsn hk2 hl2a hown0
  go_wp2_with fail
  go_loopw [6, 7] (fun o i wx => ∃ k : Nat, k ≤ n.nodes.length ∧ i = .int .i64 (k : Int) ∧ wx.ownsRow w2.heap.size 3 1 o (k + 1) (intV (0 :: Nt.costsTo n k)) ∧ Later w2 wx) (fun _ i _ => n.nodes.length - (intOf i).toNat)
  case atStart => exact ⟨0, Nat.zero_le _, rfl, Hown0.out, Hl2a.out⟩
  case round =>
    obtain ⟨k, hk, rfl, hown, hlw⟩ := hrel
    obtain ⟨Ao, co, rfl⟩ := own_form hown
    clear Hown0 Hl2a
    have x1 : w2.cell? ⟨w.heap.size, 1, none⟩ = some (.slice N n.nodes.length d) := by rw [Hk2.out.cell]; rfl
    by_cases hlt : k < n.nodes.length
    · obtain ⟨b1, off1, S, sc, I, ic, Q, qc, rfl, hNA, -, -, -⟩ := HR.out.2.at_ hlt
      have hnd := Hnode.out k hlt
      have hcs := Hsn.out k hlt
      have hks : k + 1 < sh.length := by rw [Hsl.out]; omega
      have ed : sh.getD (k + 1) [] = sh[k + 1] := gets_at' hks
      rw [ed] at hnd hcs
      have hcall := fun (W : World) (T : Option Addr) (tc : Nat) => @ref10_cost n.nodes[k].op S Q T sc qc tc n.nodes[k].p (Nt.pick sh n.nodes[k].ins) W (by rw [hnd])
      rw [hnd] at hcall
      obtain ⟨T, tc, yt, hT, -⟩ := Hrow.out.at_ hks
      obtain ⟨⟨y0, y1, y2, y3, y4, y5, y6, y7, y8, y9⟩, -, -, hQ⟩ := hNA.below Hl2.out
      have hsnk : intV (0 :: Nt.costsTo n (k + 1)) = intV (0 :: Nt.costsTo n k) ++ [.int .i64 (Od.costV n.nodes[k].op n.nodes[k].p sh[k + 1])] := by rw [hcs]; simp [intV]
      generalize n.nodes[k] = v at *
      generalize sh[k + 1] = s at *
      generalize Od.costV v.op v.p s = cv at *
      generalize intV (0 :: Nt.costsTo n k) = vs at *
      have hT2 := fun (W : World) (h : Later w2 W) => hT.below h (Nat.le_refl _)
      have hQ2 := fun (W : World) (h : Later w2 W) => hQ.below h (Nat.le_refl _)
      have Hown := Lib.hid hown
      have Hlw := Lib.hid hlw
      have Hcall := Lib.hid hcall
      have HT2 := Lib.hid hT2
      have HQ2 := Lib.hid hQ2
      have Hsnk := Lib.hid hsnk
      clear hown hlw hcall hT2 hQ2 hsnk
      have v0 := x1
      have u0 := Hlw.out.cell v0
      have v1 := y0
      have u1 := Hlw.out.cell v1
      have v2 := y1
      have u2 := Hlw.out.cell v2
      have v3 := y2
      have u3 := Hlw.out.cell v3
      have v4 := y3
      have u4 := Hlw.out.cell v4
      have v5 := y4
      have u5 := Hlw.out.cell v5
      have v6 := y5
      have u6 := Hlw.out.cell v6
      have v7 := y6
      have u7 := Hlw.out.cell v7
      have v8 := y7
      have u8 := Hlw.out.cell v8
      have v9 := y9
      have u9 := Hlw.out.cell v9
      have v10 := yt
      have u10 := Hlw.out.cell v10
      clear hnd hcs ed hNA hT hQ y0 y1 y2 y3 y4 y5 y6 y7 y8 y9 x1 yt
      have k0 : (0 : Int) ≤ (k : Int) := by omega
      have k1 : (k : Int) < (n.nodes.length : Int) := by omega
      have k2 : (k : Int) + 1 < (sh.length : Int) := by omega
      have k3 : IntKind.i64.wrap ((k : Int) + 1) = (k : Int) + 1 := IntWalk.i64_in _ (by omega)
      have k4 : ((k : Int) + 1).toNat = k + 1 := by omega
      have k5 : (0 : Int) ≤ (k : Int) + 1 := by omega
      have hszw := Hlw.out.size
      go_wp2_with fail
      go_region_held3 (fun W => W.cell? ⟨w.heap.size, 1, none⟩ = some (.slice (some ⟨b1, off1, none⟩) n.nodes.length d) ∧ W.cell? ⟨b1, off1 + k * 10, none⟩ = some (.int .i64 v.op.kind) ∧ W.cell? ⟨b1, off1 + k * 10 + 1, none⟩ = some (.int .i64 v.op.k) ∧ W.cell? ⟨b1, off1 + k * 10 + 2, none⟩ = some (.int .i64 v.op.width) ∧ W.cell? ⟨b1, off1 + k * 10 + 3, none⟩ = some (.int .i64 v.op.step) ∧ W.cell? ⟨b1, off1 + k * 10 + 4, none⟩ = some (.int .i64 v.op.side) ∧ W.cell? ⟨b1, off1 + k * 10 + 5, none⟩ = some (.int .i64 v.op.frm) ∧ W.cell? ⟨b1, off1 + k * 10 + 6, none⟩ = some (.int .i64 v.op.to) ∧ W.cell? ⟨b1, off1 + k * 10 + 7, none⟩ = some (.slice S v.op.s.length sc) ∧ W.cell? ⟨b1, off1 + k * 10 + 9, none⟩ = some (.slice Q v.p.length qc) ∧ W.cell? ⟨g, k + 1, none⟩ = some (.slice T s.length tc)) (first | (with_reducible exact ⟨u0, u1, u2, u3, u4, u5, u6, u7, u8, u9, u10⟩) | exact ⟨Later.cell (show Later w2 _ from HL4.out) v0, Later.cell (show Later w2 _ from HL4.out) v1, Later.cell (show Later w2 _ from HL4.out) v2, Later.cell (show Later w2 _ from HL4.out) v3, Later.cell (show Later w2 _ from HL4.out) v4, Later.cell (show Later w2 _ from HL4.out) v5, Later.cell (show Later w2 _ from HL4.out) v6, Later.cell (show Later w2 _ from HL4.out) v7, Later.cell (show Later w2 _ from HL4.out) v8, Later.cell (show Later w2 _ from HL4.out) v9, Later.cell (show Later w2 _ from HL4.out) v10⟩ | exact ⟨Later.cell (show Later w2 _ by repeat (first | (with_reducible exact Hlw.out) | (with_reducible apply Later.drew) | (with_reducible apply Later.alloc) | (with_reducible refine Later.call ?_ (by assumption)))) v0, Later.cell (show Later w2 _ by repeat (first | (with_reducible exact Hlw.out) | (with_reducible apply Later.drew) | (with_reducible apply Later.alloc) | (with_reducible refine Later.call ?_ (by assumption)))) v1, Later.cell (show Later w2 _ by repeat (first | (with_reducible exact Hlw.out) | (with_reducible apply Later.drew) | (with_reducible apply Later.alloc) | (with_reducible refine Later.call ?_ (by assumption)))) v2, Later.cell (show Later w2 _ by repeat (first | (with_reducible exact Hlw.out) | (with_reducible apply Later.drew) | (with_reducible apply Later.alloc) | (with_reducible refine Later.call ?_ (by assumption)))) v3, Later.cell (show Later w2 _ by repeat (first | (with_reducible exact Hlw.out) | (with_reducible apply Later.drew) | (with_reducible apply Later.alloc) | (with_reducible refine Later.call ?_ (by assumption)))) v4, Later.cell (show Later w2 _ by repeat (first | (with_reducible exact Hlw.out) | (with_reducible apply Later.drew) | (with_reducible apply Later.alloc) | (with_reducible refine Later.call ?_ (by assumption)))) v5, Later.cell (show Later w2 _ by repeat (first | (with_reducible exact Hlw.out) | (with_reducible apply Later.drew) | (with_reducible apply Later.alloc) | (with_reducible refine Later.call ?_ (by assumption)))) v6, Later.cell (show Later w2 _ by repeat (first | (with_reducible exact Hlw.out) | (with_reducible apply Later.drew) | (with_reducible apply Later.alloc) | (with_reducible refine Later.call ?_ (by assumption)))) v7, Later.cell (show Later w2 _ by repeat (first | (with_reducible exact Hlw.out) | (with_reducible apply Later.drew) | (with_reducible apply Later.alloc) | (with_reducible refine Later.call ?_ (by assumption)))) v8, Later.cell (show Later w2 _ by repeat (first | (with_reducible exact Hlw.out) | (with_reducible apply Later.drew) | (with_reducible apply Later.alloc) | (with_reducible refine Later.call ?_ (by assumption)))) v9, Later.cell (show Later w2 _ by repeat (first | (with_reducible exact Hlw.out) | (with_reducible apply Later.drew) | (with_reducible apply Later.alloc) | (with_reducible refine Later.call ?_ (by assumption)))) v10⟩)
        (first
        | (go_at_call 54; refine (Hcall.out _ T tc (HQ2.out _ (show Later w2 _ by repeat (first | (with_reducible exact Hlw.out) | (with_reducible apply Later.drew) | (with_reducible apply Later.alloc)))) (HT2.out _ (show Later w2 _ by repeat (first | (with_reducible exact Hlw.out) | (with_reducible apply Later.drew) | (with_reducible apply Later.alloc))))).mono ?_; rintro e w3 ⟨rfl, hb3⟩; have HL3 := Lib.hid (show Later wr w3 by repeat (first | (with_reducible exact Later.refl _) | (with_reducible apply Later.drew) | (with_reducible refine Later.call ?_ hb3))))
        | ((refine step_append_lies _ (by rfl) _ _ _ (by rfl) w2.heap.size 3 i0 _ 1 8 Try.underlying22 hi hz0 hz1 hz2 rfl (by omega) (.slice Ao (k + 1) co) (k + 1) vs (by rfl) (ownsRow_new (ownsRow_keep (T := 74) Hown.out (by decide) (Keep.of_later HL3.out)) (.cells #[.int .i64 cv] 3)) ⟨w3.heap.size, 0, none⟩ 1 1 [.int .i64 cv] (by rfl) (by rfl) (one_new w3 _ _) (by simp [Value.oneCell']) (by omega) (by unfold maxLen; omega) (by omega) (by have := HL3.out.size; simp; omega) (w3.heap.size + 1) (by simp) ?_; intro gg cap w4 hown4 hgrow hat hlt4; have HL4 := Lib.hid (show Later w2 w4 from Below.grown ((Hlw.out.trans HL3.out).alloc (.cells #[.int .i64 cv] 3)) hgrow (by have := HL3.out.size; simp; omega) (fun b hb => (Hown.out.lt b hb).1)))))
      rw [← Hsnk.out] at hown4
      have Hown4 := Lib.hid hown4
      clear hown4
      clear hgrow hat k2 k3 k4 k5 u0 u1 u2 u3 u4 u5 u6 u7 u8 u9 u10 v0 v1 v2 v3 v4 v5 v6 v7 v9 v10
      go_wp2_with fail
      go_roundw
      case rel => exact ⟨k + 1, by omega, by go_num, Hown4.out, HL4.out⟩
      case measure => simp [intOf]; omega
    · obtain rfl : k = n.nodes.length := by omega
      have hcl : (Nt.costs n).length = n.nodes.length + 1 := by simp [Nt.costs, Nt.costsTo_len]
      have hown2 : wr.ownsRow w2.heap.size 3 1 (.slice Ao (n.nodes.length + 1) co) (n.nodes.length + 1) (intV (Nt.costs n)) := hown
      rw [← hcl] at hown2 ⊢
      obtain ⟨q1, q2, q3⟩ := own_ints hown2
      have hl := Hl2.out.trans hlw
      have x1' := hlw.cell x1
      have Hown := Lib.hid hown
      have Hown2 := Lib.hid hown2
      have Hq1 := Lib.hid q1
      have Hq2 := Lib.hid q2
      have Hq3 := Lib.hid q3
      have Hlw := Lib.hid hlw
      have Hl := Lib.hid hl
      have Hcl := Lib.hid hcl
      clear hown hown2 q1 q2 q3 hlw hl hcl
      clear x1
      go_wp2_with fail
      go_ret
      exact ⟨Ao, co, rfl, Hq1.out, Hq2.out, Hq3.out, Hl.out⟩
end Go.Proofs.Ytjkhpbngpceenaa
/- The statements' own: is a net small? Then it has at most a hundred nodes. -/
namespace Go.Proofs.Ytjkhpbngpceenaa
open Go.RowKit
def SmallP (n : NetD) (w : World) (e : Ending) (w' : World) : Prop := ∃ b, e = .returned (.bool b) ∧ (b = true → n.nodes.length ≤ 100) ∧ Below w.heap.size w w'
set_option maxRecDepth 20000 in
set_option maxHeartbeats 8000000 in
theorem smallP_11 (A N : Option Addr) (c d : Nat) (n : NetD) (w : World) (hok : n.ok) (hR : NetR w A N n) :
    Calls Try.prog 9 #[.agg #[.slice A n.inn.length c, .slice N n.nodes.length d]] w (SmallP n w) := by
  have hnl := hok.2.1
  have hil := hok.1
  have hb0 : Below w.heap.size w (w.alloc (.cells #[.slice A n.inn.length c, .slice N n.nodes.length d] 26)) := (Below.refl _ _).alloc (Nat.le_refl _) _
  have Hok := Lib.hid hok
  have HR := Lib.hid hR
  clear hok hR
  go_enter Try.func9, Try.ntmps9
  go_wp2_with fail
  generalize w.alloc (.cells #[.slice A n.inn.length c, .slice N n.nodes.length d] 26) = w1 at *
  go_loopw [3, 14] (fun t i wx => ∃ (k : Nat) (z : Int), k ≤ n.nodes.length ∧ i = .int .i64 (k : Int) ∧ t = .int .i64 z ∧ 3 * (k : Int) ≤ z ∧ z ≤ 1048576 ∧ Below w.heap.size w wx) (fun _ i _ => n.nodes.length - (intOf i).toNat)
  case atStart => exact ⟨0, _, Nat.zero_le _, rfl, rfl, by omega, by omega, hb0⟩
  case round =>
    obtain ⟨k, z, hk, rfl, rfl, hz1, hz2, hbw⟩ := hrel
    clear hb0
    by_cases hlt : k < n.nodes.length
    · obtain ⟨b, off, S, sc, J, ic, Q, qc, rfl, hNA, -, -, -⟩ := HR.out.2.at_ hlt
      have hnok := Hok.out.2.2 _ (List.getElem_mem hlt)
      have hsl := hnok.2.1
      have hll := hnok.2.2.1
      have hpl := hnok.2.2.2.1
      have hps := hnok.2.2.2.2.1
      have hQi := hNA.2.2.2
      generalize n.nodes[k] = v at *
      obtain ⟨⟨y0, y1, y2, y3, y4, y5, y6, y7, y8, y9⟩, -⟩ := hNA.below hbw
      have hbn := hbw.alloc hbw.size (.cells #[.int .i64 v.op.kind, .int .i64 v.op.k, .int .i64 v.op.width, .int .i64 v.op.step, .int .i64 v.op.side, .int .i64 v.op.frm, .int .i64 v.op.to, .slice S v.op.s.length sc, .slice J v.ins.length ic, .slice Q v.p.length qc] 46)
      have HNA := Lib.hid hNA
      have Hnok := Lib.hid hnok
      have HQi := Lib.hid hQi
      have Hps := Lib.hid hps
      clear hNA hnok hQi hps
      go_wp2_with fail
      clear y0 y1 y2 y3 y4 y5 y6 y7 y8 y9
      generalize wr.alloc (.cells #[.int .i64 v.op.kind, .int .i64 v.op.k, .int .i64 v.op.width, .int .i64 v.op.step, .int .i64 v.op.side, .int .i64 v.op.frm, .int .i64 v.op.to, .slice S v.op.s.length sc, .slice J v.ins.length ic, .slice Q v.p.length qc] 46) = w2 at *
      go_loop [3, 32] (fun t i => ∃ (m : Nat) (z2 : Int), m ≤ v.p.length ∧ i = .int .i64 (m : Int) ∧ t = .int .i64 z2 ∧ z + 3 ≤ z2 ∧ z2 ≤ z + 3 + 2097152 + (m : Int) * 1048577) (fun _ i => v.p.length - (intOf i).toNat)
      case atStart => exact ⟨0, _, Nat.zero_le _, rfl, rfl, by omega, by omega⟩
      case round =>
        obtain ⟨m, z2, hm, rfl, rfl, hz3, hz4⟩ := hrel
        have hmb : (m : Int) * 1048577 ≤ 1048576 * 1048577 := Int.mul_le_mul_of_nonneg_right (by omega) (by omega)
        by_cases hlm : m < v.p.length
        · obtain ⟨b5, o5, Ss, cs, rfl, -, hcs, -⟩ := HQi.out m hlm
          have hcs2 := cell_below hbn hcs
          have hsl2 := Hps.out _ (List.getElem_mem hlm)
          generalize v.p[m] = s at *
          have hz5 : z2 + (1 + (s.length : Int)) ≤ z + 3 + 2097152 + ((m : Int) + 1) * 1048577 := by rw [Int.add_mul]; omega
          have hz6 : z2 ≤ 1099520000000 := by omega
          clear hcs hz4 hmb
          have Hz5 := Lib.hid hz5
          clear hz5
          go_wp2_with fail
          go_round
          case rel => exact ⟨m + 1, _, by omega, by go_num, rfl, by omega, Hz5.out⟩
          case measure => simp [intOf]; omega
        · obtain rfl : m = v.p.length := by omega
          by_cases h3 : 300 < z2
          · have d3 : decide (300 < z2) = true := by simpa using h3
            clear h3 hmb hz4
            go_wp2_with fail
            go_ret
            exact ⟨_, rfl, by simp, hbn⟩
          · have d3 : decide (300 < z2) = false := by simpa using h3
            have hz7 : 3 * ((k : Int) + 1) ≤ z2 := by omega
            have hz8 : z2 ≤ 1048576 := by omega
            clear h3 hmb hz4
            go_wp2_with fail
            go_roundw
            case rel => exact ⟨k + 1, _, by omega, by go_num, rfl, hz7, hz8, hbn⟩
            case measure => simp [intOf]; omega
    · obtain rfl : k = n.nodes.length := by omega
      go_wp2_with fail
      go_ret
      refine ⟨_, rfl, fun h => ?_, hbw⟩
      have h : z ≤ 300 := by simpa using h
      omega
set_option maxRecDepth 20000 in
set_option maxHeartbeats 8000000 in
theorem smallP_13 (A N : Option Addr) (c d : Nat) (n : NetD) (w : World) (hok : n.ok) (hR : NetR w A N n) :
    Calls Try.prog 27 #[.agg #[.slice A n.inn.length c, .slice N n.nodes.length d]] w (SmallP n w) := by
  have hnl := hok.2.1
  have hil := hok.1
  have hb0 : Below w.heap.size w (w.alloc (.cells #[.slice A n.inn.length c, .slice N n.nodes.length d] 26)) := (Below.refl _ _).alloc (Nat.le_refl _) _
  have Hok := Lib.hid hok
  have HR := Lib.hid hR
  clear hok hR
  go_enter Try.func27, Try.ntmps27
  go_wp2_with fail
  generalize w.alloc (.cells #[.slice A n.inn.length c, .slice N n.nodes.length d] 26) = w1 at *
  go_loopw [3, 14] (fun t i wx => ∃ (k : Nat) (z : Int), k ≤ n.nodes.length ∧ i = .int .i64 (k : Int) ∧ t = .int .i64 z ∧ 3 * (k : Int) ≤ z ∧ z ≤ 1048576 ∧ Below w.heap.size w wx) (fun _ i _ => n.nodes.length - (intOf i).toNat)
  case atStart => exact ⟨0, _, Nat.zero_le _, rfl, rfl, by omega, by omega, hb0⟩
  case round =>
    obtain ⟨k, z, hk, rfl, rfl, hz1, hz2, hbw⟩ := hrel
    clear hb0
    by_cases hlt : k < n.nodes.length
    · obtain ⟨b, off, S, sc, J, ic, Q, qc, rfl, hNA, -, -, -⟩ := HR.out.2.at_ hlt
      have hnok := Hok.out.2.2 _ (List.getElem_mem hlt)
      have hsl := hnok.2.1
      have hll := hnok.2.2.1
      have hpl := hnok.2.2.2.1
      have hps := hnok.2.2.2.2.1
      have hQi := hNA.2.2.2
      generalize n.nodes[k] = v at *
      obtain ⟨⟨y0, y1, y2, y3, y4, y5, y6, y7, y8, y9⟩, -⟩ := hNA.below hbw
      have hbn := hbw.alloc hbw.size (.cells #[.int .i64 v.op.kind, .int .i64 v.op.k, .int .i64 v.op.width, .int .i64 v.op.step, .int .i64 v.op.side, .int .i64 v.op.frm, .int .i64 v.op.to, .slice S v.op.s.length sc, .slice J v.ins.length ic, .slice Q v.p.length qc] 46)
      have HNA := Lib.hid hNA
      have Hnok := Lib.hid hnok
      have HQi := Lib.hid hQi
      have Hps := Lib.hid hps
      clear hNA hnok hQi hps
      go_wp2_with fail
      clear y0 y1 y2 y3 y4 y5 y6 y7 y8 y9
      generalize wr.alloc (.cells #[.int .i64 v.op.kind, .int .i64 v.op.k, .int .i64 v.op.width, .int .i64 v.op.step, .int .i64 v.op.side, .int .i64 v.op.frm, .int .i64 v.op.to, .slice S v.op.s.length sc, .slice J v.ins.length ic, .slice Q v.p.length qc] 46) = w2 at *
      go_loop [3, 32] (fun t i => ∃ (m : Nat) (z2 : Int), m ≤ v.p.length ∧ i = .int .i64 (m : Int) ∧ t = .int .i64 z2 ∧ z + 3 ≤ z2 ∧ z2 ≤ z + 3 + 2097152 + (m : Int) * 1048577) (fun _ i => v.p.length - (intOf i).toNat)
      case atStart => exact ⟨0, _, Nat.zero_le _, rfl, rfl, by omega, by omega⟩
      case round =>
        obtain ⟨m, z2, hm, rfl, rfl, hz3, hz4⟩ := hrel
        have hmb : (m : Int) * 1048577 ≤ 1048576 * 1048577 := Int.mul_le_mul_of_nonneg_right (by omega) (by omega)
        by_cases hlm : m < v.p.length
        · obtain ⟨b5, o5, Ss, cs, rfl, -, hcs, -⟩ := HQi.out m hlm
          have hcs2 := cell_below hbn hcs
          have hsl2 := Hps.out _ (List.getElem_mem hlm)
          generalize v.p[m] = s at *
          have hz5 : z2 + (1 + (s.length : Int)) ≤ z + 3 + 2097152 + ((m : Int) + 1) * 1048577 := by rw [Int.add_mul]; omega
          have hz6 : z2 ≤ 1099520000000 := by omega
          clear hcs hz4 hmb
          have Hz5 := Lib.hid hz5
          clear hz5
          go_wp2_with fail
          go_round
          case rel => exact ⟨m + 1, _, by omega, by go_num, rfl, by omega, Hz5.out⟩
          case measure => simp [intOf]; omega
        · obtain rfl : m = v.p.length := by omega
          by_cases h3 : 300 < z2
          · have d3 : decide (300 < z2) = true := by simpa using h3
            clear h3 hmb hz4
            go_wp2_with fail
            go_ret
            exact ⟨_, rfl, by simp, hbn⟩
          · have d3 : decide (300 < z2) = false := by simpa using h3
            have hz7 : 3 * ((k : Int) + 1) ≤ z2 := by omega
            have hz8 : z2 ≤ 1048576 := by omega
            clear h3 hmb hz4
            go_wp2_with fail
            go_roundw
            case rel => exact ⟨k + 1, _, by omega, by go_num, rfl, hz7, hz8, hbn⟩
            case measure => simp [intOf]; omega
    · obtain rfl : k = n.nodes.length := by omega
      go_wp2_with fail
      go_ret
      refine ⟨_, rfl, fun h => ?_, hbw⟩
      have h : z ≤ 300 := by simpa using h
      omega
end Go.Proofs.Ytjkhpbngpceenaa
/- Layer 13's statements: what they share. -/
namespace Go.Proofs.Ytjkhpbngpceenaa
open Go.RowKit
theorem netR_at {w w' : World} {A N : Option Addr} {n : NetD} (h : NetR w A N n) (hl : Later w w') : NetR w' A N n := h.below hl (Nat.le_refl _)
theorem Ints.row {w : World} {A : Option Addr} {zs : List Int} (h : Ints .i64 w A zs) (hz : 0 < zs.length) : ∃ b off, A = some ⟨b, off, none⟩ ∧ ∀ k (hk : k < zs.length), w.cell? ⟨b, off + k, none⟩ = some (.int .i64 zs[k]) := by
  obtain ⟨b, off, rfl, -, -⟩ := h 0 hz
  refine ⟨b, off, rfl, fun k hk => ?_⟩
  obtain ⟨b', o', e, -, hc⟩ := h k hk
  injection e with e; injection e with e1 e2; subst e1 e2
  rw [getD_at hk] at hc
  exact hc
theorem at_words {n : NetD} (h : Nt.check n = 0) {j : Nat} (hj : j ≤ n.nodes.length) : ∃ q : j < (Nt.words n).length, (Nt.words n)[j] = Nt.wAt n j := by
  have hl := Nt.words_len h
  refine ⟨by omega, ?_⟩
  unfold Nt.wAt
  rw [Int.toNat_natCast, List.getD_eq_getElem?_getD, List.getElem?_eq_getElem (by omega)]; rfl
theorem at_costs {n : NetD} {j : Nat} (hj : j ≤ n.nodes.length) : ∃ q : j < (Nt.costs n).length, (Nt.costs n)[j] = Nt.cAt n j := by
  have hl : (Nt.costs n).length = n.nodes.length + 1 := by simp [Nt.costs, Nt.costsTo_len]
  refine ⟨by omega, ?_⟩
  unfold Nt.cAt
  rw [Int.toNat_natCast, List.getD_eq_getElem?_getD, List.getElem?_eq_getElem (by omega)]; rfl
def WCut (n : NetD) (w : World) (a b : Value) (wx : World) : Prop :=
  ∃ A c A2 c2, a = .slice A (Nt.words n).length c ∧ b = .slice A2 (Nt.costs n).length c2 ∧ Ints .i64 wx A (Nt.words n) ∧ Ints .i64 wx A2 (Nt.costs n) ∧ Later w wx
end Go.Proofs.Ytjkhpbngpceenaa
