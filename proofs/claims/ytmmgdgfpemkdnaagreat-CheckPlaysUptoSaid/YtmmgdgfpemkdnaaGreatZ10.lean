/- Lemmas for the statements of this seat: contracts of functions and the plain laws. -/
import Derived.Deep.AppendLies
import Derived.Deep.RegionHeld3
import Derived.Test.YtmmgdgfpemkdnaaGreatZ09
set_option linter.unusedVariables false
/- The reference of layer 13: contracts. -/
namespace Go.Proofs.YtmmgdgfpemkdnaaGreat
open Go.RowKit
set_option maxRecDepth 20000 in
set_option maxHeartbeats 8000000 in
theorem ref13_words (A N : Option Addr) (c d : Nat) (n : NetD) (w : World) (hok : n.ok) (hR : NetR w A N n) (hd : n.nodes.length ≤ d) (hc : n.inn.length ≤ c) (hcm : c ≤ 9223372036854775807) (hck : Nt.check n = 0) :
    Calls Tryz.prog 34 #[.agg #[.slice A n.inn.length c, .slice N n.nodes.length d]] w (SortPost (Nt.words n) w) := by
  obtain ⟨i0, hi, hz0, hz1, hz2⟩ := info_parts int_info
  have hnl := (Nt.check_ok hck).2.1
  have hl0 : Later w (w.alloc (.cells #[.slice A n.inn.length c, .slice N n.nodes.length d] 43)) := (Later.refl w).alloc _
  have HR := Lib.hid hR
  have Hl0 := Lib.hid hl0
  have Hok := Lib.hid hok
  have Hck := Lib.hid hck
  clear hR hl0 hok hck
  go_enter Tryz.func34, Tryz.ntmps34
  go_wp2_with fail
  generalize w.alloc (.cells #[.slice A n.inn.length c, .slice N n.nodes.length d] 43) = w1 at *
  refine (ref11_check A N c d n w1 Hok.out (HR.out.below Hl0.out (Nat.le_refl _)) hd hc hcm).mono ?_
  rintro e w2 ⟨hb2, ⟨-, g, rfl, -, hrow⟩ | ⟨hc', -⟩⟩
  rotate_left
  · exact absurd Hck.out hc'
  have hl2 := Hl0.out.call hb2
  have hsl := Nt.shapes_len Hck.out
  have hsr := Nt.shapes_all Hck.out
  have hwd : (Nt.shapes n).map Safe.prod = Nt.words n := rfl
  clear hb2
  generalize Nt.shapes n = sh at *
  have hsl2 : sh.length ≤ 513 := by omega
  rw [← hsl]
  have Hl2 := Lib.hid hl2
  have Hrow := Lib.hid hrow
  have Hsl := Lib.hid hsl
  have Hsr := Lib.hid hsr
  have Hwd := Lib.hid hwd
  clear hl2 hrow hsl hsr hwd
  go_wp2_with fail
  go_loopw [6, 7] (fun o i wx => ∃ k : Nat, k ≤ sh.length ∧ i = .int .i64 (k : Int) ∧ wx.ownsRow w2.heap.size 3 1 o k (intV ((sh.take k).map Safe.prod)) ∧ Later w2 wx) (fun _ i _ => sh.length - (intOf i).toNat)
  case atStart => exact ⟨0, Nat.zero_le _, rfl, by simpa [intV] using World.ownsRow_nil w2 w2.heap.size 3 1, Later.refl _⟩
  case round =>
    obtain ⟨k, hk, rfl, hown, hlw⟩ := hrel
    obtain ⟨Ao, co, rfl⟩ := own_form hown
    by_cases hlt : k < sh.length
    · have hrs := Hsr.out _ (List.getElem_mem hlt)
      obtain ⟨S, sc, y, hI, h1, h2, -⟩ := (Hrow.out.below hlw (Nat.le_refl _)).at_ hlt
      have hsn : intV ((sh.take (k + 1)).map Safe.prod) = intV ((sh.take k).map Safe.prod) ++ [.int .i64 (Safe.prod sh[k])] := by rw [List.take_succ_eq_append_getElem hlt, List.map_append, List.map_singleton, intV_snoc]
      generalize sh[k] = s at *
      generalize intV ((sh.take k).map Safe.prod) = vs at *
      have k0 : (k : Int) < (sh.length : Int) := by omega
      have Hown := Lib.hid hown
      have Hlw := Lib.hid hlw
      have Hrs := Lib.hid hrs
      have HI := Lib.hid hI
      have Hsn := Lib.hid hsn
      clear hown hlw hrs hI hsn
      go_wp2_with fail
      refine (ref03_size S sc s _ Hrs.out HI.out).mono ?_
      rintro e w3 ⟨rfl, rfl⟩
      have ho := ownsRow_new Hown.out (.cells #[.int .i64 (Safe.prod s)] 3)
      have hbx2 := Hlw.out.alloc (.cells #[.int .i64 (Safe.prod s)] 3)
      have hsz := hbx2.size
      rw [World.size_alloc] at hsz
      have HLO := Lib.hid (fun b (hb : (Value.slice Ao k co).ownBlock = some b) => (Hown.out.lt b hb).1)
      go_wp2_with (at_builtin; refine wpList_append_own_at _ rfl _ _ 22 rfl w2.heap.size 3 i0 (.int .i64 0) 1 8 Tryz.underlying22 hi hz0 hz1 hz2 rfl (by decide) _ _ _ rfl ho ⟨wr.heap.size, 0, none⟩ 1 1 [.int .i64 (Safe.prod s)] rfl rfl ?c1 (by intro u hu; simp at hu; subst hu; rfl) (by unfold maxLen; omega) (by omega) ?c2 ?_)
      first | (case c1 => exact one_new wr _ _) | skip
      case c2 => simp; omega
      intro v' w4 hown' hgrow _ hat
      have hl4 : Later w2 w4 := Below.grown hbx2 hgrow (by simp; omega) (fun b hb => HLO.out b hb)
      rw [← Hsn.out] at hown'
      have Hown' := Lib.hid hown'
      have Hl4 := Lib.hid hl4
      clear hown' hl4
      clear hgrow hat ho hbx2 HLO
      go_wp2_with fail
      go_roundw
      case rel => exact ⟨k + 1, by omega, by go_num, Hown'.out, Hl4.out⟩
      case measure => simp [intOf]; omega
    · obtain rfl : k = sh.length := by omega
      rw [List.take_length] at hown
      have hq := Hwd.out
      have hwl : (Nt.words n).length = sh.length := by rw [← hq]; simp
      rw [hq] at hown
      rw [← hwl] at hown
      have hown2 : wr.ownsRow w2.heap.size 3 1 (.slice Ao (Nt.words n).length co) (Nt.words n).length ((Nt.words n).map (Value.int .i64)) := hown
      obtain ⟨q1, q2, q3⟩ := own_ints hown2
      have hl := Hl2.out.trans hlw
      rw [← hwl]
      have Hown := Lib.hid hown
      have Hown2 := Lib.hid hown2
      have Hq := Lib.hid hq
      have Hq1 := Lib.hid q1
      have Hq2 := Lib.hid q2
      have Hq3 := Lib.hid q3
      have Hlw := Lib.hid hlw
      have Hl := Lib.hid hl
      have Hwl := Lib.hid hwl
      clear hown hown2 hq q1 q2 q3 hlw hl hwl
      go_wp2_with fail
      go_ret
      exact ⟨Ao, co, rfl, Hq1.out, Hq2.out, Hq3.out, Hl.out⟩
/-- A sorted row that is the call's own. -/
def SortPostO (os : List Int) (w : World) (e : Ending) (w' : World) : Prop :=
  ∃ A c, e = .returned (.slice A os.length c) ∧ Ints .i64 w' A os ∧ os.length ≤ c ∧ c ≤ 9223372036854775807 ∧ (∀ a, A = some a → w.heap.size ≤ a.block) ∧ Below w.heap.size w w'
set_option maxRecDepth 20000 in
set_option maxHeartbeats 16000000 in
theorem ref13_costO (A N : Option Addr) (c d : Nat) (n : NetD) (w : World) (hok : n.ok) (hR : NetR w A N n) (hd : n.nodes.length ≤ d) (hc : n.inn.length ≤ c) (hcm : c ≤ 9223372036854775807) (hck : Nt.check n = 0) :
    Calls Tryz.prog 12 #[.agg #[.slice A n.inn.length c, .slice N n.nodes.length d]] w (SortPostO (Nt.costs n) w) := by
  obtain ⟨i0, hi, hz0, hz1, hz2⟩ := info_parts int_info
  have hnl := (Nt.check_ok hck).2.1
  have hk0 := Blk.new w 43 #[.slice A n.inn.length c, .slice N n.nodes.length d]
  have hl0 : Later w (w.alloc (.cells #[.slice A n.inn.length c, .slice N n.nodes.length d] 43)) := (Later.refl w).alloc _
  have HR := Lib.hid hR
  have Hl0 := Lib.hid hl0
  have Hok := Lib.hid hok
  have Hck := Lib.hid hck
  have Hk0 := Lib.hid hk0
  clear hR hl0 hok hck hk0
  go_enter Tryz.func12, Tryz.ntmps12
  go_wp2_with fail
  generalize w.alloc (.cells #[.slice A n.inn.length c, .slice N n.nodes.length d] 43) = w1 at *
  refine (ref11_check A N c d n w1 Hok.out (HR.out.below Hl0.out (Nat.le_refl _)) hd hc hcm).mono ?_
  rintro e w2 ⟨hb2, ⟨-, g, rfl, -, hrow⟩ | ⟨hc', -⟩⟩
  rotate_left
  · exact absurd Hck.out hc'
  have hl2 := Hl0.out.call hb2
  have hk2 := (show Later w1 w2 from hb2).blk Hk0.out
  have hsl := Nt.shapes_len Hck.out
  have hnode := fun k hk => @Nt.shapes_node n Hck.out k hk
  have hsn := fun k hk => @Nt.costsTo_succ n k hk
  clear hb2
  generalize Nt.shapes n = sh at *
  rw [← hsl]
  have hl2a : Later w2 (w2.alloc (.cells #[.int .i64 0] 3)) := (Later.refl w2).alloc _
  have hown0 : (w2.alloc (.cells #[.int .i64 0] 3)).ownsRow w2.heap.size 3 1 (.slice (some ⟨w2.heap.size, 0, none⟩) 1 1) (0 + 1) (intV (0 :: Nt.costsTo n 0)) := ⟨rfl, .inr ⟨w2.heap.size, 1, #[.int .i64 0], rfl, Nat.le_refl _, heap_alloc_new w2 _, Nat.le_refl _, by decide, rfl, rfl⟩⟩
  have Hl2 := Lib.hid hl2
  have Hrow := Lib.hid hrow
  have Hsl := Lib.hid hsl
  have Hnode := Lib.hid hnode
  have Hsn := Lib.hid hsn
  have Hk2 := Lib.hid hk2
  have Hl2a := Lib.hid hl2a
  have Hown0 := Lib.hid hown0
  clear hl2 hrow hsl hnode hsn hk2 hl2a hown0
  go_wp2_with fail
  go_loopw [6, 7] (fun o i wx => ∃ k : Nat, k ≤ n.nodes.length ∧ i = .int .i64 (k : Int) ∧ wx.ownsRow w2.heap.size 3 1 o (k + 1) (intV (0 :: Nt.costsTo n k)) ∧ Later w2 wx) (fun _ i _ => n.nodes.length - (intOf i).toNat)
  case atStart => exact ⟨0, Nat.zero_le _, rfl, Hown0.out, Hl2a.out⟩
  case round =>
    obtain ⟨k, hk, rfl, hown, hlw⟩ := hrel
    obtain ⟨Ao, co, rfl⟩ := own_form hown
    clear Hown0 Hl2a
    have x1 : w2.cell? ⟨w.heap.size, 1, none⟩ = some (.slice N n.nodes.length d) := by rw [Hk2.out.cell]; rfl
    by_cases hlt : k < n.nodes.length
    · obtain ⟨b1, off1, S, sc, I, ic, Q, qc, rfl, hNA, -, -, -⟩ := HR.out.2.at_ hlt
      have hnd := Hnode.out k hlt
      have hcs := Hsn.out k hlt
      have hks : k + 1 < sh.length := by rw [Hsl.out]; omega
      have ed : sh.getD (k + 1) [] = sh[k + 1] := gets_at' hks
      rw [ed] at hnd hcs
      have hcall := fun (W : World) (T : Option Addr) (tc : Nat) => @ref10_cost n.nodes[k].op S Q T sc qc tc n.nodes[k].p (Nt.pick sh n.nodes[k].ins) W (by rw [hnd])
      rw [hnd] at hcall
      obtain ⟨T, tc, yt, hT, -⟩ := Hrow.out.at_ hks
      obtain ⟨⟨y0, y1, y2, y3, y4, y5, y6, y7, y8, y9⟩, -, -, hQ⟩ := hNA.below Hl2.out
      have hsnk : intV (0 :: Nt.costsTo n (k + 1)) = intV (0 :: Nt.costsTo n k) ++ [.int .i64 (Od.costV n.nodes[k].op n.nodes[k].p sh[k + 1])] := by rw [hcs]; simp [intV]
      generalize n.nodes[k] = v at *
      generalize sh[k + 1] = s at *
      generalize Od.costV v.op v.p s = cv at *
      generalize intV (0 :: Nt.costsTo n k) = vs at *
      have hT2 := fun (W : World) (h : Later w2 W) => hT.below h (Nat.le_refl _)
      have hQ2 := fun (W : World) (h : Later w2 W) => hQ.below h (Nat.le_refl _)
      have Hown := Lib.hid hown
      have Hlw := Lib.hid hlw
      have Hcall := Lib.hid hcall
      have HT2 := Lib.hid hT2
      have HQ2 := Lib.hid hQ2
      have Hsnk := Lib.hid hsnk
      clear hown hlw hcall hT2 hQ2 hsnk
      have v0 := x1
      have u0 := Hlw.out.cell v0
      have v1 := y0
      have u1 := Hlw.out.cell v1
      have v2 := y1
      have u2 := Hlw.out.cell v2
      have v3 := y2
      have u3 := Hlw.out.cell v3
      have v4 := y3
      have u4 := Hlw.out.cell v4
      have v5 := y4
      have u5 := Hlw.out.cell v5
      have v6 := y5
      have u6 := Hlw.out.cell v6
      have v7 := y6
      have u7 := Hlw.out.cell v7
      have v8 := y7
      have u8 := Hlw.out.cell v8
      have v9 := y9
      have u9 := Hlw.out.cell v9
      have v10 := yt
      have u10 := Hlw.out.cell v10
      clear hnd hcs ed hNA hT hQ y0 y1 y2 y3 y4 y5 y6 y7 y8 y9 x1 yt
      have k0 : (0 : Int) ≤ (k : Int) := by omega
      have k1 : (k : Int) < (n.nodes.length : Int) := by omega
      have k2 : (k : Int) + 1 < (sh.length : Int) := by omega
      have k3 : IntKind.i64.wrap ((k : Int) + 1) = (k : Int) + 1 := IntWalk.i64_in _ (by omega)
      have k4 : ((k : Int) + 1).toNat = k + 1 := by omega
      have k5 : (0 : Int) ≤ (k : Int) + 1 := by omega
      have hszw := Hlw.out.size
      go_wp2_with fail
      go_region_held3 (fun W => W.cell? ⟨w.heap.size, 1, none⟩ = some (.slice (some ⟨b1, off1, none⟩) n.nodes.length d) ∧ W.cell? ⟨b1, off1 + k * 10, none⟩ = some (.int .i64 v.op.kind) ∧ W.cell? ⟨b1, off1 + k * 10 + 1, none⟩ = some (.int .i64 v.op.k) ∧ W.cell? ⟨b1, off1 + k * 10 + 2, none⟩ = some (.int .i64 v.op.width) ∧ W.cell? ⟨b1, off1 + k * 10 + 3, none⟩ = some (.int .i64 v.op.step) ∧ W.cell? ⟨b1, off1 + k * 10 + 4, none⟩ = some (.int .i64 v.op.side) ∧ W.cell? ⟨b1, off1 + k * 10 + 5, none⟩ = some (.int .i64 v.op.frm) ∧ W.cell? ⟨b1, off1 + k * 10 + 6, none⟩ = some (.int .i64 v.op.to) ∧ W.cell? ⟨b1, off1 + k * 10 + 7, none⟩ = some (.slice S v.op.s.length sc) ∧ W.cell? ⟨b1, off1 + k * 10 + 9, none⟩ = some (.slice Q v.p.length qc) ∧ W.cell? ⟨g, k + 1, none⟩ = some (.slice T s.length tc)) (first | (with_reducible exact ⟨u0, u1, u2, u3, u4, u5, u6, u7, u8, u9, u10⟩) | exact ⟨Later.cell (show Later w2 _ from HL4.out) v0, Later.cell (show Later w2 _ from HL4.out) v1, Later.cell (show Later w2 _ from HL4.out) v2, Later.cell (show Later w2 _ from HL4.out) v3, Later.cell (show Later w2 _ from HL4.out) v4, Later.cell (show Later w2 _ from HL4.out) v5, Later.cell (show Later w2 _ from HL4.out) v6, Later.cell (show Later w2 _ from HL4.out) v7, Later.cell (show Later w2 _ from HL4.out) v8, Later.cell (show Later w2 _ from HL4.out) v9, Later.cell (show Later w2 _ from HL4.out) v10⟩ | exact ⟨Later.cell (show Later w2 _ by repeat (first | (with_reducible exact Hlw.out) | (with_reducible apply Later.drew) | (with_reducible apply Later.alloc) | (with_reducible refine Later.call ?_ (by assumption)))) v0, Later.cell (show Later w2 _ by repeat (first | (with_reducible exact Hlw.out) | (with_reducible apply Later.drew) | (with_reducible apply Later.alloc) | (with_reducible refine Later.call ?_ (by assumption)))) v1, Later.cell (show Later w2 _ by repeat (first | (with_reducible exact Hlw.out) | (with_reducible apply Later.drew) | (with_reducible apply Later.alloc) | (with_reducible refine Later.call ?_ (by assumption)))) v2, Later.cell (show Later w2 _ by repeat (first | (with_reducible exact Hlw.out) | (with_reducible apply Later.drew) | (with_reducible apply Later.alloc) | (with_reducible refine Later.call ?_ (by assumption)))) v3, Later.cell (show Later w2 _ by repeat (first | (with_reducible exact Hlw.out) | (with_reducible apply Later.drew) | (with_reducible apply Later.alloc) | (with_reducible refine Later.call ?_ (by assumption)))) v4, Later.cell (show Later w2 _ by repeat (first | (with_reducible exact Hlw.out) | (with_reducible apply Later.drew) | (with_reducible apply Later.alloc) | (with_reducible refine Later.call ?_ (by assumption)))) v5, Later.cell (show Later w2 _ by repeat (first | (with_reducible exact Hlw.out) | (with_reducible apply Later.drew) | (with_reducible apply Later.alloc) | (with_reducible refine Later.call ?_ (by assumption)))) v6, Later.cell (show Later w2 _ by repeat (first | (with_reducible exact Hlw.out) | (with_reducible apply Later.drew) | (with_reducible apply Later.alloc) | (with_reducible refine Later.call ?_ (by assumption)))) v7, Later.cell (show Later w2 _ by repeat (first | (with_reducible exact Hlw.out) | (with_reducible apply Later.drew) | (with_reducible apply Later.alloc) | (with_reducible refine Later.call ?_ (by assumption)))) v8, Later.cell (show Later w2 _ by repeat (first | (with_reducible exact Hlw.out) | (with_reducible apply Later.drew) | (with_reducible apply Later.alloc) | (with_reducible refine Later.call ?_ (by assumption)))) v9, Later.cell (show Later w2 _ by repeat (first | (with_reducible exact Hlw.out) | (with_reducible apply Later.drew) | (with_reducible apply Later.alloc) | (with_reducible refine Later.call ?_ (by assumption)))) v10⟩)
        (first
        | (go_at_call 35; refine (Hcall.out _ T tc (HQ2.out _ (show Later w2 _ by repeat (first | (with_reducible exact Hlw.out) | (with_reducible apply Later.drew) | (with_reducible apply Later.alloc)))) (HT2.out _ (show Later w2 _ by repeat (first | (with_reducible exact Hlw.out) | (with_reducible apply Later.drew) | (with_reducible apply Later.alloc))))).mono ?_; rintro e w3 ⟨rfl, hb3⟩; have HL3 := Lib.hid (show Later wr w3 by repeat (first | (with_reducible exact Later.refl _) | (with_reducible apply Later.drew) | (with_reducible refine Later.call ?_ hb3))))
        | ((refine step_append_lies _ (by rfl) _ _ _ (by rfl) w2.heap.size 3 i0 _ 1 8 Tryz.underlying22 hi hz0 hz1 hz2 rfl (by omega) (.slice Ao (k + 1) co) (k + 1) vs (by rfl) (ownsRow_new (ownsRow_keep (T := 81) Hown.out (by decide) (Keep.of_later HL3.out)) (.cells #[.int .i64 cv] 3)) ⟨w3.heap.size, 0, none⟩ 1 1 [.int .i64 cv] (by rfl) (by rfl) (one_new w3 _ _) (by simp [Value.oneCell']) (by omega) (by unfold maxLen; omega) (by omega) (by have := HL3.out.size; simp; omega) (w3.heap.size + 1) (by simp) ?_; intro gg cap w4 hown4 hgrow hat hlt4; have HL4 := Lib.hid (show Later w2 w4 from Below.grown ((Hlw.out.trans HL3.out).alloc (.cells #[.int .i64 cv] 3)) hgrow (by have := HL3.out.size; simp; omega) (fun b hb => (Hown.out.lt b hb).1)))))
      rw [← Hsnk.out] at hown4
      have Hown4 := Lib.hid hown4
      clear hown4
      clear hgrow hat k2 k3 k4 k5 u0 u1 u2 u3 u4 u5 u6 u7 u8 u9 u10 v0 v1 v2 v3 v4 v5 v6 v7 v9 v10
      go_wp2_with fail
      go_roundw
      case rel => exact ⟨k + 1, by omega, by go_num, Hown4.out, HL4.out⟩
      case measure => simp [intOf]; omega
    · obtain rfl : k = n.nodes.length := by omega
      have hcl : (Nt.costs n).length = n.nodes.length + 1 := by simp [Nt.costs, Nt.costsTo_len]
      have hown2 : wr.ownsRow w2.heap.size 3 1 (.slice Ao (n.nodes.length + 1) co) (n.nodes.length + 1) (intV (Nt.costs n)) := hown
      rw [← hcl] at hown2 ⊢
      obtain ⟨q1, q2, q3⟩ := own_ints hown2
      have hl := Hl2.out.trans hlw
      have x1' := hlw.cell x1
      have q4 : ∀ a, Ao = some a → w.heap.size ≤ a.block := fun a q => by have h1 := (hown2.lt a.block (by rw [q]; rfl)).1; have h2 := Hl2.out.size; omega
      have Hown := Lib.hid hown
      have Hown2 := Lib.hid hown2
      have Hq1 := Lib.hid q1
      have Hq2 := Lib.hid q2
      have Hq3 := Lib.hid q3
      have Hq4 := Lib.hid q4
      have Hlw := Lib.hid hlw
      have Hl := Lib.hid hl
      have Hcl := Lib.hid hcl
      clear hown hown2 q1 q2 q3 q4 hlw hl hcl
      clear x1
      go_wp2_with fail
      go_ret
      exact ⟨Ao, co, rfl, Hq1.out, Hq2.out, Hq3.out, Hq4.out, Hl.out⟩
theorem ref13_cost (A N : Option Addr) (c d : Nat) (n : NetD) (w : World) (hok : n.ok) (hR : NetR w A N n) (hd : n.nodes.length ≤ d) (hc : n.inn.length ≤ c) (hcm : c ≤ 9223372036854775807) (hck : Nt.check n = 0) :
    Calls Tryz.prog 12 #[.agg #[.slice A n.inn.length c, .slice N n.nodes.length d]] w (SortPost (Nt.costs n) w) :=
  (ref13_costO A N c d n w hok hR hd hc hcm hck).mono fun _ _ ⟨A, c, h1, h2, h3, h4, _, h5⟩ => ⟨A, c, h1, h2, h3, h4, h5⟩
end Go.Proofs.YtmmgdgfpemkdnaaGreat
/- The reference of layer 18: New: contract. Printed by gen/refnew.py. -/
namespace Go.Proofs.YtmmgdgfpemkdnaaGreat
open Go.RowKit
theorem RfRow.set13 {g : Nat} {w : World} {A : Option Addr} {l : List Int} (k : RfRow g g w A l) (a0 a1 a2 a3 a4 a5 a6 a7 a8 a9 a10 a11 a12 : Value) : Ints .i64 (((((((((((((w.setCell ⟨g, 0, none⟩ a0).setCell ⟨g, 1, none⟩ a1).setCell ⟨g, 2, none⟩ a2).setCell ⟨g, 3, none⟩ a3).setCell ⟨g, 4, none⟩ a4).setCell ⟨g, 5, none⟩ a5).setCell ⟨g, 6, none⟩ a6).setCell ⟨g, 7, none⟩ a7).setCell ⟨g, 8, none⟩ a8).setCell ⟨g, 9, none⟩ a9).setCell ⟨g, 10, none⟩ a10).setCell ⟨g, 11, none⟩ a11).setCell ⟨g, 12, none⟩ a12) A l := by
  have H : g ≤ g ∧ g ≤ g := ⟨Nat.le_refl _, Nat.le_refl _⟩
  exact (((((((((((((k.set H 0 a0).set H 1 a1).set H 2 a2).set H 3 a3).set H 4 a4).set H 5 a5).set H 6 a6).set H 7 a7).set H 8 a8).set H 9 a9).set H 10 a10).set H 11 a11).set H 12 a12).1
theorem one_ints {w : World} {g : Nat} {t : TypeId} {z : Int} (h : Blk w g t #[.int .i64 z]) : Ints .i64 w (some ⟨g, 0, none⟩) [z] := fun j hj => by
  have : j = 0 := by simpa using hj
  subst this
  exact ⟨g, 0, rfl, h.lt, by rw [h.cell]; rfl⟩
theorem not_zero13 {w : World} {g : Nat} {t : TypeId} (h : Blk w g t zeros13) {A : Option Addr} {l : List Int} (hI : Ints .i64 w A l) (h1 : ∀ z ∈ l, 1 ≤ z) : RfRow g g w A l := by
  refine ⟨hI, fun hl a e q => ?_⟩
  match l, hl with
  | x :: r, _ =>
    obtain ⟨b, off, e2, hb, hc⟩ := hI 0 (by simp)
    have hx := h1 x (by simp)
    rw [e] at e2
    injection e2 with e2
    subst e2
    simp only at q
    have hbg : b = g := by omega
    subst hbg
    rw [Nat.add_zero, h.cell] at hc
    simp only [List.getD_cons_zero] at hc
    rcases Nat.lt_or_ge off 13 with ho | ho
    · have : off = 0 ∨ off = 1 ∨ off = 2 ∨ off = 3 ∨ off = 4 ∨ off = 5 ∨ off = 6 ∨ off = 7 ∨ off = 8 ∨ off = 9 ∨ off = 10 ∨ off = 11 ∨ off = 12 := by omega
      rcases this with rfl | rfl | rfl | rfl | rfl | rfl | rfl | rfl | rfl | rfl | rfl | rfl | rfl <;> (simp [zeros13] at hc; try omega)
    · rw [Array.getElem?_eq_none (by simp [zeros13]; omega)] at hc
      cases hc
def NewP18 (A N : Option Addr) (c d : Nat) (n : NetD) (cap : Int) (w : World) (e : Ending) (w' : World) : Prop :=
  ∃ (Wd Or : Option Addr) (cw co : Nat) (V : RfV), e = .returned (.agg (RfF.cells ⟨A, N, Wd, Or, c, d, cw, co⟩ V n (Ck.base n cap) Rf.start)) ∧ RfF.Fix ⟨A, N, Wd, Or, c, d, cw, co⟩ n (Ck.base n cap) w' ∧ V.At Rf.start w' ∧ Later w w' ∧ (∀ g, g < w.heap.size → V.Off Rf.start g) ∧ (Nt.words n).length ≤ cw ∧ cw ≤ 9223372036854775807
theorem new_end {A N Wd Or T : Option Addr} {c d cw co h : Nat} {n : NetD} {cap : Int} {w X : World} (hW : Nt.check n = 0) (hl : Later w X) (hsz : w.heap.size ≤ h + 1) (k : Blk X (h + 1) 49 zeros13) (rW : Ints .i64 X Wd (Nt.words n)) (rO : Ints .i64 X Or (Nt.sorted n.nodes)) (rT : Ints .i64 X T [0]) (hT : ∀ a, T = some a → h + 1 < a.block) (hR : NetR w A N n) (hw1 : (Nt.words n).length ≤ cw) (hw2 : cw ≤ 9223372036854775807) :
    NewP18 A N c d n cap w (.returned (.agg #[.slice A n.inn.length c, .slice N n.nodes.length d, .slice Wd (Nt.words n).length cw, .slice Or (Nt.sorted n.nodes).length co, .int .i64 (Nt.loss n.nodes), .int .i64 cap, .slice T 1 1, .slice none 0 0, .slice none 0 0, .int .i64 0, .int .i64 0, .int .i64 0, .int .i64 0])) (((((((((((((X.setCell ⟨h + 1, 0, none⟩ (.slice A n.inn.length c)).setCell ⟨h + 1, 1, none⟩ (.slice N n.nodes.length d)).setCell ⟨h + 1, 2, none⟩ (.slice Wd (Nt.words n).length cw)).setCell ⟨h + 1, 3, none⟩ (.slice Or (Nt.sorted n.nodes).length co)).setCell ⟨h + 1, 4, none⟩ (.int .i64 (Nt.loss n.nodes))).setCell ⟨h + 1, 5, none⟩ (.int .i64 cap)).setCell ⟨h + 1, 6, none⟩ (.slice T 1 1)).setCell ⟨h + 1, 7, none⟩ (.slice none 0 0)).setCell ⟨h + 1, 8, none⟩ (.slice none 0 0)).setCell ⟨h + 1, 9, none⟩ (.int .i64 0)).setCell ⟨h + 1, 10, none⟩ (.int .i64 0)).setCell ⟨h + 1, 11, none⟩ (.int .i64 0)).setCell ⟨h + 1, 12, none⟩ (.int .i64 0)) := by
  have hL := later13 (g := h + 1) hl hsz (.slice A n.inn.length c) (.slice N n.nodes.length d) (.slice Wd (Nt.words n).length cw) (.slice Or (Nt.sorted n.nodes).length co) (.int .i64 (Nt.loss n.nodes)) (.int .i64 cap) (.slice T 1 1) (.slice none 0 0) (.slice none 0 0) (.int .i64 0) (.int .i64 0) (.int .i64 0) (.int .i64 0)
  refine ⟨Wd, Or, cw, co, ⟨T, none, none, 1, 0, 0⟩, rfl, ⟨hR.below hL (Nat.le_refl _), ?_, ?_⟩, ⟨?_, fun j hj => absurd hj (by simp [Rf.start]), fun j hj => absurd hj (by simp [Rf.start])⟩, hL, fun g hg => ⟨fun _ a e => by have := hT a e; omega, fun _ a e => by (cases e), fun _ a e => by (cases e)⟩, hw1, hw2⟩
  · exact RfRow.set13 (not_zero13 k rW (fun z hz => (Nt.words_bd hW z hz).1)) _ _ _ _ _ _ _ _ _ _ _ _ _
  · exact RfRow.set13 (not_zero13 k rO (fun z hz => (Kn.order_rng _ _ z hz).1)) _ _ _ _ _ _ _ _ _ _ _ _ _
  · exact RfRow.set13 (g := h + 1) (w := X) ⟨rT, fun _ a e q => by have := hT a e; omega⟩ _ _ _ _ _ _ _ _ _ _ _ _ _
set_option maxHeartbeats 32000000 in
set_option maxRecDepth 100000 in
theorem ref18_new (A N : Option Addr) (c d : Nat) (n : NetD) (cap : Int) (w : World) (hok : n.ok) (hR : NetR w A N n) (hd : n.nodes.length ≤ d) (hc : n.inn.length ≤ c) (hcm : c ≤ 9223372036854775807) (hck : Nt.check n = 0) :
    Calls Tryz.prog 11 #[.agg #[.slice A n.inn.length c, .slice N n.nodes.length d], .int .i64 cap] w (NewP18 A N c d n cap w) := by
  have hl0 : Later w ((w.alloc (.cells #[.slice A n.inn.length c, .slice N n.nodes.length d] 43)).alloc (.cells zeros13 49)) := ((Later.refl w).alloc _).alloc _
  have hkB := Blk.new w 43 #[.slice A n.inn.length c, .slice N n.nodes.length d]
  have hkZ := Blk.new (w.alloc (.cells #[.slice A n.inn.length c, .slice N n.nodes.length d] 43)) 49 zeros13
  have hlB : Later (w.alloc (.cells #[.slice A n.inn.length c, .slice N n.nodes.length d] 43)) ((w.alloc (.cells #[.slice A n.inn.length c, .slice N n.nodes.length d] 43)).alloc (.cells zeros13 49)) := (Later.refl _).alloc _
  have hsz : (w.alloc (.cells #[.slice A n.inn.length c, .slice N n.nodes.length d] 43)).heap.size = w.heap.size + 1 := World.size_alloc _ _
  rw [World.size_alloc] at hkZ
  unfold zeros13 at *
  have Hok := Lib.hid hok
  have HR := Lib.hid hR
  have Hck := Lib.hid hck
  have Hl0 := Lib.hid hl0
  have HkB := Lib.hid hkB
  have HkZ := Lib.hid hkZ
  have HlB := Lib.hid hlB
  have Hsz := Lib.hid hsz
  clear hok hR hck hl0 hkB hkZ hlB hsz
  go_enter Tryz.func11, Tryz.ntmps11
  go_wp2_with fail
  generalize hwB : w.alloc (.cells #[.slice A n.inn.length c, .slice N n.nodes.length d] 43) = wB at *
  generalize hwZ : wB.alloc (.cells #[.slice none 0 0, .slice none 0 0, .slice none 0 0, .slice none 0 0, .int .i64 0, .int .i64 0, .slice none 0 0, .slice none 0 0, .slice none 0 0, .int .i64 0, .int .i64 0, .int .i64 0, .int .i64 0] 49) = wZ at *
  clear hwB hwZ
  generalize hh : w.heap.size = h at *
  have HSZ := Lib.hid (show wB.heap.size ≤ h + 1 by have := Hsz.out; omega)
  have HSW := Lib.hid (show w.heap.size ≤ h + 1 by omega)
  clear hh Hsz
  refine (ref11_check A N c d n wZ Hok.out (HR.out.below Hl0.out (Nat.le_refl _)) hd hc hcm).mono ?_
  rintro e w2 ⟨hb2, ⟨-, g, rfl, -, -⟩ | ⟨hc', -⟩⟩
  rotate_left
  · exact absurd Hck.out hc'
  have HLZ := Lib.hid (show Later wZ w2 from hb2)
  have HLB := Lib.hid (HlB.out.trans HLZ.out)
  have HL0 := Lib.hid (Hl0.out.trans HLZ.out)
  have x0 := HLB.out.cell (HkB.out.cell 0)
  have x1 := HLB.out.cell (HkB.out.cell 1)
  simp at x0 x1
  have X0 := Lib.hid (HkB.out.cell 0)
  have X1 := Lib.hid (HkB.out.cell 1)
  simp at X0 X1
  clear hb2
  generalize hlo : Nt.loss n.nodes = lo at *
  go_upto_region 2 with fail
  go_region_held3 (fun X => X.cell? ⟨h, 0, none⟩ = some (.slice A n.inn.length c) ∧ X.cell? ⟨h, 1, none⟩ = some (.slice N n.nodes.length d)) (first | (with_reducible exact ⟨x0, x1⟩) | exact ⟨Later.cell (show Later wB _ by repeat (first | (with_reducible exact HLB.out) | (with_reducible apply Later.drew) | (with_reducible apply Later.alloc) | (with_reducible refine Later.call ?_ (by assumption)) | (with_reducible refine Later.set ?_ HSZ.out _))) X0.out, Later.cell (show Later wB _ by repeat (first | (with_reducible exact HLB.out) | (with_reducible apply Later.drew) | (with_reducible apply Later.alloc) | (with_reducible refine Later.call ?_ (by assumption)) | (with_reducible refine Later.set ?_ HSZ.out _))) X1.out⟩)
    (first
    | (go_at_call 34; refine (ref13_words A N c d n _ Hok.out (HR.out.below (show Later w _ by repeat (first | (with_reducible exact HL0.out) | (with_reducible apply Later.drew) | (with_reducible apply Later.alloc) | (with_reducible refine Later.call ?_ (by assumption)) | (with_reducible refine Later.set ?_ HSZ.out _))) (Nat.le_refl _)) hd hc hcm Hck.out).mono ?_; rintro e w4 ⟨Wd, cw, rfl, hIW, hIW1, hIW2, hb4⟩; have hlz := (show Later wZ w4 by repeat (first | (with_reducible exact HLZ.out) | (with_reducible apply Later.drew) | (with_reducible apply Later.alloc) | (with_reducible refine Later.call ?_ (by assumption)) | (with_reducible refine Later.set ?_ HSZ.out _))); obtain ⟨z0, z1, z2, z3, z4, z5, z6, z7, z8, z9, z10, z11, z12⟩ := cells_zero13 (hlz.blk HkZ.out); obtain ⟨f0, f1, f2, f3, f4, f5, f6, f7, f8, f9, f10, f11, f12⟩ := frozen13 (hlz.blk HkZ.out); obtain ⟨p0, p1, p2, p3, p4, p5, p6, p7, p8, p9, p10, p11, p12⟩ := cells_zero13 ((hlz.blk HkZ.out).alloc (.cells #[.int .i64 0] 3)); obtain ⟨q0, q1, q2, q3, q4, q5, q6, q7, q8, q9, q10, q11, q12⟩ := frozen13 ((hlz.blk HkZ.out).alloc (.cells #[.int .i64 0] 3)); clear hlz)
    | (go_at_call 30; refine (ref11_order A N c d n _ Hok.out (HR.out.below (show Later w _ by repeat (first | (with_reducible exact HL0.out) | (with_reducible apply Later.drew) | (with_reducible apply Later.alloc) | (with_reducible refine Later.call ?_ (by assumption)) | (with_reducible refine Later.set ?_ HSZ.out _))) (Nat.le_refl _)) ).mono ?_; rintro e w5 ⟨Or, co, rfl, hIO, hIO1, hIO2, hb5⟩; have hlz := (show Later wZ w5 by repeat (first | (with_reducible exact HLZ.out) | (with_reducible apply Later.drew) | (with_reducible apply Later.alloc) | (with_reducible refine Later.call ?_ (by assumption)) | (with_reducible refine Later.set ?_ HSZ.out _))); obtain ⟨z0, z1, z2, z3, z4, z5, z6, z7, z8, z9, z10, z11, z12⟩ := cells_zero13 (hlz.blk HkZ.out); obtain ⟨f0, f1, f2, f3, f4, f5, f6, f7, f8, f9, f10, f11, f12⟩ := frozen13 (hlz.blk HkZ.out); obtain ⟨p0, p1, p2, p3, p4, p5, p6, p7, p8, p9, p10, p11, p12⟩ := cells_zero13 ((hlz.blk HkZ.out).alloc (.cells #[.int .i64 0] 3)); obtain ⟨q0, q1, q2, q3, q4, q5, q6, q7, q8, q9, q10, q11, q12⟩ := frozen13 ((hlz.blk HkZ.out).alloc (.cells #[.int .i64 0] 3)); clear hlz))
  · have hz4 : Later wZ w4 := (by repeat (first | (with_reducible exact HLZ.out) | (with_reducible apply Later.drew) | (with_reducible apply Later.alloc) | (with_reducible refine Later.call ?_ (by assumption))))
    have hl45 : Later w4 w5 := (by repeat (first | (with_reducible exact Later.refl _) | (with_reducible apply Later.drew) | (with_reducible apply Later.alloc) | (with_reducible refine Later.call ?_ (by assumption))))
    go_wp2_with fail
    subst hlo
    refine bodyPost_ret (by simp [results, Tryz.results11, go_sem, p0, p1, p2, p3, p4, p5, p6, p7, p8, p9, p10, p11, p12]; rfl) rfl ?_
    have hW := Hck.out
    have k4 := hz4.blk HkZ.out
    have k5 := hl45.blk k4
    have hsz := HSZ.out
    exact new_end (hR := HR.out) (hw1 := hIW1) (hw2 := hIW2) hW (((Hl0.out.trans hz4).trans hl45).alloc _) HSW.out (k5.alloc _) (hIW.below (hl45.alloc _) (Nat.le_refl _)) (hIO.below ((Later.refl w5).alloc _) (Nat.le_refl _)) (one_ints (Blk.new w5 3 _)) (fun a e => by injection e with e; subst e; exact k5.lt)
  · have hz4 : Later wZ w4 := (by repeat (first | (with_reducible exact HLZ.out) | (with_reducible apply Later.drew) | (with_reducible apply Later.alloc) | (with_reducible refine Later.call ?_ (by assumption))))
    have hl45 : Later w4 w5 := (by repeat (first | (with_reducible exact Later.refl _) | (with_reducible apply Later.drew) | (with_reducible apply Later.alloc) | (with_reducible refine Later.call ?_ (by assumption))))
    go_wp2_with fail
    subst hlo
    refine bodyPost_ret (by simp [results, Tryz.results11, go_sem, z0, z1, z2, z3, z4, z5, z6, z7, z8, z9, z10, z11, z12]; rfl) rfl ?_
    have hW := Hck.out
    have k4 := hz4.blk HkZ.out
    have k5 := hl45.blk k4
    have hsz := HSZ.out
    exact new_end (hR := HR.out) (hw1 := hIW1) (hw2 := hIW2) hW ((Hl0.out.trans hz4).trans hl45) HSW.out k5 (hIW.below hl45 (Nat.le_refl _)) hIO (one_ints (Later.blk (show Later (w4.alloc (.cells #[.int .i64 0] 3)) w5 from hb5) (Blk.new w4 3 _))) (fun a e => by injection e with e; subst e; exact k4.lt)
  · have hz4 : Later wZ w4 := (by repeat (first | (with_reducible exact HLZ.out) | (with_reducible apply Later.drew) | (with_reducible apply Later.alloc) | (with_reducible refine Later.call ?_ (by assumption))))
    have hl45 : Later w4 w5 := (by repeat (first | (with_reducible exact Later.refl _) | (with_reducible apply Later.drew) | (with_reducible apply Later.alloc) | (with_reducible refine Later.call ?_ (by assumption))))
    go_wp2_with fail
    subst hlo
    refine bodyPost_ret (by simp [results, Tryz.results11, go_sem, z0, z1, z2, z3, z4, z5, z6, z7, z8, z9, z10, z11, z12]; rfl) rfl ?_
    have hW := Hck.out
    have k4 := hz4.blk HkZ.out
    have k5 := hl45.blk k4
    have hsz := HSZ.out
    exact new_end (hR := HR.out) (hw1 := hIW1) (hw2 := hIW2) hW ((Hl0.out.trans hz4).trans hl45) HSW.out k5 (hIW.below hl45 (Nat.le_refl _)) hIO (one_ints (Later.blk (Later.trans (show Later (w2.alloc (.cells #[.int .i64 0] 3)).drew w4 from hb4) hl45) (Blk.new w2 3 _).drew)) (fun a e => by injection e with e; subst e; exact (HLZ.out.blk HkZ.out).lt)
end Go.Proofs.YtmmgdgfpemkdnaaGreat
/- The statements' own: a net as the document has it (ref): contract. -/
namespace Go.Proofs.YtmmgdgfpemkdnaaGreat
open Go.RowKit
theorem ownsRow_base {w : World} {B B' e s n : Nat} {v : Value} {xs : List Value} (h : w.ownsRow B e s v n xs) (hB : B' ≤ B) : w.ownsRow B' e s v n xs := by
  refine ⟨h.1, ?_⟩
  rcases h.2 with h | ⟨g, cap, cur, h1, h2, h3⟩
  · exact .inl h
  · exact .inr ⟨g, cap, cur, h1, Nat.le_trans hB h2, h3⟩
abbrev RQ := NodeQ × List Value
def RQ.cells (x : RQ) : List Value := x.1.cells
def RQ.Phi (B : Nat) (x : RQ) (W : World) : Prop := W.ownsRow B 22 1 (.slice x.1.Q x.1.v.p.length x.1.q) x.1.v.p.length x.2
def RQ.Good (w : World) (x : RQ) : Prop := (Ints .i64 w x.1.S x.1.v.op.s ∧ x.1.v.op.s.length ≤ x.1.c ∧ x.1.c ≤ 9223372036854775807) ∧ (Ints .i64 w x.1.I x.1.v.ins ∧ x.1.v.ins.length ≤ x.1.d ∧ x.1.d ≤ 9223372036854775807) ∧ RowOf w x.2 x.1.v.p
/-- A row of nodes of the call's own. -/
def RefRow (t : TypeId) (B C : Nat) (w W : World) (v : Value) (ns : List NodeD) : Prop :=
  ∃ L : List RQ, L.map (fun x => x.1.v) = ns ∧ OwnRow B C W t 10 v RQ.cells (RQ.Phi B) L ∧ ∀ x ∈ L, RQ.Good w x
theorem RQ.len (x : RQ) : (RQ.cells x).length = 10 := rfl
theorem RefRow.nil (t : TypeId) (B : Nat) (w W : World) : RefRow t B W.heap.size w W (.slice none 0 0) [] := ⟨[], rfl, OwnRow.nil _ _ _ _ _ _, by simp⟩
theorem RefRow.form {t : TypeId} {B C : Nat} {w W : World} {v : Value} {ns : List NodeD} (h : RefRow t B C w W v ns) : ∃ A c, v = .slice A ns.length c ∧ ns.length ≤ c ∧ (∀ b, v.ownBlock = some b → B ≤ b ∧ b < C) := by
  obtain ⟨L, hL, hO, _⟩ := h
  obtain ⟨A, c, e, hc⟩ := hO.form
  have hl : L.length = ns.length := by rw [← hL]; simp
  rw [hl] at e hc
  exact ⟨A, c, e, hc, fun b hb => ⟨(hO.1.lt b hb).1, hO.2.1 b hb⟩⟩
theorem RefRow.fr {t : TypeId} {B C : Nat} {w W W' : World} {v : Value} {ns : List NodeD} {S : Nat → Prop} (h : RefRow t B C w W v ns) (hf : Fr S W W') (hS : ∀ b, B ≤ b → b < C → ¬ S b) : RefRow t B C w W' v ns := by
  obtain ⟨L, hL, hO, hG⟩ := h
  exact ⟨L, hL, hO.fr hf hS, hG⟩
theorem RefRow.nodes {t : TypeId} {B C : Nat} {w W : World} {v : Value} {ns : List NodeD} (h : RefRow t B C w W v ns) (hb : Below w.heap.size w W) :
    ∃ A c, v = .slice A ns.length c ∧ ns.length ≤ c ∧ c ≤ 9223372036854775807 ∧ Nodes W A ns := by
  obtain ⟨L, rfl, hO, hG⟩ := h
  rw [List.length_map]
  rcases hO.1.2 with ⟨rfl, h0⟩ | ⟨g, cap, cur, rfl, _, hh, hcap, hmax, _⟩
  · have : L = [] := List.eq_nil_of_length_eq_zero h0
    subst this
    exact ⟨none, 0, rfl, by simp, by omega, fun j hj => absurd hj (by simp)⟩
  · refine ⟨_, cap, rfl, hcap, by unfold maxLen at hmax; omega, fun j hj => ?_⟩
    rw [List.length_map] at hj
    obtain ⟨b, cap', e, _, _, _, hc⟩ := hO.at_ (fun x => RQ.len x) hj
    injection e with e _ _
    injection e with e
    injection e with e
    subst e
    obtain ⟨⟨s1, s2, s3⟩, ⟨i1, i2, i3⟩, hrow⟩ := hG L[j] (List.getElem_mem hj)
    have hphi := hO.now L[j] (List.getElem_mem hj)
    obtain ⟨AQ, cQ, eQ, _, hQ, q1, q2⟩ := hrow.shps hphi hb
    injection eQ with e1 _ e2
    rw [List.getElem_map]
    refine ⟨g, 0, L[j].1.S, L[j].1.c, L[j].1.I, L[j].1.d, L[j].1.Q, L[j].1.q, rfl, lt_of_block hh, ?_, ?_, ?_, ?_, ?_, ?_, ?_, ?_, ?_, ?_, ⟨s1.below hb (Nat.le_refl _), s2, s3⟩, ⟨i1.below hb (Nat.le_refl _), i2, i3⟩, by rw [e1]; exact hQ, by rw [e2]; exact q1, by rw [e2]; exact q2⟩
    · have := hc 0 (by omega); simpa [RQ.cells, NodeQ.cells] using this
    · have := hc 1 (by omega); simpa [RQ.cells, NodeQ.cells] using this
    · have := hc 2 (by omega); simpa [RQ.cells, NodeQ.cells] using this
    · have := hc 3 (by omega); simpa [RQ.cells, NodeQ.cells] using this
    · have := hc 4 (by omega); simpa [RQ.cells, NodeQ.cells] using this
    · have := hc 5 (by omega); simpa [RQ.cells, NodeQ.cells] using this
    · have := hc 6 (by omega); simpa [RQ.cells, NodeQ.cells] using this
    · have := hc 7 (by omega); simpa [RQ.cells, NodeQ.cells] using this
    · have := hc 8 (by omega); simpa [RQ.cells, NodeQ.cells] using this
    · have := hc 9 (by omega); simpa [RQ.cells, NodeQ.cells] using this
/-- Behind an append. -/
theorem refrow_push {t : TypeId} {B C : Nat} {w W W' : World} {v v' : Value} {L : List RQ} {x : NodeQ} {vs : List Value} {C2 : Nat} (hO : OwnRow B C W t 10 v RQ.cells (RQ.Phi B) L) (hGL : ∀ x ∈ L, RQ.Good w x) (hC : C ≤ C2) (hB : B ≤ C2)
    (hown : W'.ownsRow B t 10 v' (L.length + 1) (L.flatMap RQ.cells ++ x.cells)) (hg : W.grownBy W' v.ownBlock) (hat : v'.ownBlock = v.ownBlock ∨ v'.ownBlock = some W.heap.size)
    (hx : W.ownsRow C2 22 1 (.slice x.Q x.v.p.length x.q) x.v.p.length vs) (hG : RQ.Good w (x, vs)) : RefRow t B W'.heap.size w W' v' (L.map (fun x => x.1.v) ++ [x.v]) := by
  refine ⟨L ++ [(x, vs)], by simp, ?_, fun y hy => ?_⟩
  · refine hO.push (x := ((x, vs) : RQ)) hown hg hat (F := fun b => (Value.slice x.Q x.v.p.length x.q).ownBlock = some b) (fun W2 h2 => ?_) (fun b hb => ?_)
    · exact ownsRow_heap (ownsRow_base hx hB) h2
    · obtain ⟨h1, h2⟩ := hx.lt b hb
      exact ⟨by omega, h2, fun e => by have := hO.2.1 b e.symm; omega⟩
  · rcases List.mem_append.1 hy with hy | hy
    · exact hGL y hy
    · simp at hy; subst hy; exact hG
def RefNetP (n : NetD) (A : Option Addr) (c : Nat) (w : World) (e : Ending) (w' : World) : Prop :=
  ∃ N' d', e = .returned (.agg #[.slice A n.inn.length c, .slice N' n.nodes.length d']) ∧ NetR w' A N' n ∧ n.nodes.length ≤ d' ∧ d' ≤ 9223372036854775807 ∧ Below w.heap.size w w'
def RInv (tN tR tE : TypeId) (n : NetD) (A N : Option Addr) (c d : Nat) (w0 w : World) (k : Nat) (wx : World) : Prop :=
  Blk wx w.heap.size tN #[.slice A n.inn.length c, .slice N n.nodes.length d] ∧ Blk wx (w.heap.size + 1) tR #[.slice none 0 0, .slice none 0 0] ∧ Below w.heap.size w wx ∧
    ∃ v, Blk wx (w.heap.size + 2) tR #[.slice A n.inn.length c, v] ∧ RefRow tE (w.heap.size + 3) wx.heap.size w0 wx v (n.nodes.take k)
/-- The same, with where its nodes lie. -/
def RefNetS (t : TypeId) (n : NetD) (A : Option Addr) (c : Nat) (w0 w : World) (e : Ending) (w' : World) : Prop :=
  ∃ N' d' C, e = .returned (.agg #[.slice A n.inn.length c, .slice N' n.nodes.length d']) ∧ n.nodes.length ≤ d' ∧ d' ≤ 9223372036854775807 ∧ Below w.heap.size w w' ∧ RefRow t (w.heap.size + 3) C w0 w' (.slice N' n.nodes.length d') n.nodes
theorem RefRow.net {t : TypeId} {B C : Nat} {w W : World} {A N N' : Option Addr} {d' : Nat} {n : NetD} (h : RefRow t B C w W (.slice N' n.nodes.length d') n.nodes) (hb : Later w W) (hR : NetR w A N n) : NetR W A N' n := by
  obtain ⟨N2, d2, e2, -, -, hNodes⟩ := h.nodes hb
  injection e2 with e3 _ _
  subst e3
  exact ⟨hR.1.below hb (Nat.le_refl _), hNodes⟩
theorem RefNetS.netp {t : TypeId} {n : NetD} {A N : Option Addr} {c : Nat} {w w' : World} {e : Ending} (h : RefNetS t n A c w w e w') (hR : NetR w A N n) : RefNetP n A c w e w' := by
  obtain ⟨N', d', C, rfl, h1, h2, hb, hr⟩ := h
  exact ⟨N', d', rfl, hr.net hb hR, h1, h2, hb⟩
theorem refnode_info : (Tryz.prog.info? 81).map (fun i => (i.zero, i.size, i.bytes)) = some (some (.agg #[.int .i64 0, .int .i64 0, .int .i64 0, .int .i64 0, .int .i64 0, .int .i64 0, .int .i64 0, .slice none 0 0, .slice none 0 0, .slice none 0 0]), 10, 128) := by kernel_rfl
set_option maxRecDepth 20000 in
set_option maxHeartbeats 16000000 in
theorem ref_18s (A N : Option Addr) (c d : Nat) (n : NetD) (w0 w : World) (hok : n.ok) (hl0 : Later w0 w) (hR : NetR w0 A N n) :
    Calls Tryz.prog 9 #[.agg #[.slice A n.inn.length c, .slice N n.nodes.length d]] w (RefNetS 81 n A c w0 w) := by
  obtain ⟨i1, hj, hy0, hy1, hy2⟩ := info_parts shpsT_info
  obtain ⟨i2, hn, hn0, hn1, hn2⟩ := info_parts refnode_info
  have hnl := hok.2.1
  have hbx := below3 w (.cells #[.slice A n.inn.length c, .slice N n.nodes.length d] 26) (.cells #[.slice none 0 0, .slice none 0 0] 43) (.cells #[.slice A n.inn.length c, .slice none 0 0] 43)
  have hk1 := ((Blk.new w 26 #[.slice A n.inn.length c, .slice N n.nodes.length d]).alloc (.cells #[.slice none 0 0, .slice none 0 0] 43)).alloc (.cells #[.slice A n.inn.length c, .slice none 0 0] 43)
  have hk2 := (Blk.new (w.alloc (.cells #[.slice A n.inn.length c, .slice N n.nodes.length d] 26)) 43 #[.slice none 0 0, .slice none 0 0]).alloc (.cells #[.slice A n.inn.length c, .slice none 0 0] 43)
  have hk3 := Blk.new ((w.alloc (.cells #[.slice A n.inn.length c, .slice N n.nodes.length d] 26)).alloc (.cells #[.slice none 0 0, .slice none 0 0] 43)) 43 #[.slice A n.inn.length c, .slice none 0 0]
  rw [World.size_alloc] at hk2
  rw [World.size_alloc, World.size_alloc] at hk3
  have Hok := Lib.hid hok
  have HR := Lib.hid hR
  have Hk1 := Lib.hid hk1
  have Hk2 := Lib.hid hk2
  have Hk3 := Lib.hid hk3
  clear hok hR hk1 hk2 hk3
  go_enter Tryz.func9, Tryz.ntmps9
  go_wp2_with fail
  generalize ((w.alloc (.cells #[.slice A n.inn.length c, .slice N n.nodes.length d] 26)).alloc (.cells #[.slice none 0 0, .slice none 0 0] 43)).alloc (.cells #[.slice A n.inn.length c, .slice none 0 0] 43) = w1 at *
  have HI1 := Lib.hid (show RInv 26 43 81 n A N c d w0 w 0 w1 from ⟨Hk1.out, Hk2.out, hbx, _, Hk3.out, by rw [List.take_zero]; exact RefRow.nil _ _ _ _⟩)
  clear Hk1 Hk2 Hk3 hbx
  go_loopw [15] (fun i wx => ∃ k : Nat, k ≤ n.nodes.length ∧ i = .int .i64 (k : Int) ∧ RInv 26 43 81 n A N c d w0 w k wx) (fun i _ => n.nodes.length - (intOf i).toNat)
  case atStart => exact ⟨0, Nat.zero_le _, rfl, HI1.out⟩
  case round =>
    obtain ⟨k, hk, rfl, hb1, hb2, hbw, v0, hb3, hrow⟩ := hrel
    clear HI1
    have hl3 := hb3.lt
    by_cases hlt : k < n.nodes.length
    · obtain ⟨b, off, S, sc, J, ic, Q, qc, rfl, hNA, hs1, hI1, hq1⟩ := HR.out.2.at_ hlt
      have hnok := Hok.out.2.2 _ (List.getElem_mem hlt)
      have htk := List.take_succ_eq_append_getElem hlt
      have hpl := hnok.2.2.2.1
      have hSi := hNA.2.1
      have hJi := hNA.2.2.1
      have hQi := hNA.2.2.2
      generalize n.nodes[k] = v at *
      obtain ⟨⟨y0, y1, y2, y3, y4, y5, y6, y7, y8, y9⟩, -⟩ := hNA.below (hl0.call hbw)
      have hkn := (Blk.new wr 67 #[.int .i64 v.op.kind, .int .i64 v.op.k, .int .i64 v.op.width, .int .i64 v.op.step, .int .i64 v.op.side, .int .i64 v.op.frm, .int .i64 v.op.to, .slice S v.op.s.length sc, .slice J v.ins.length ic, .slice Q v.p.length qc]).alloc (.cells #[.int .i64 v.op.kind, .int .i64 v.op.k, .int .i64 v.op.width, .int .i64 v.op.step, .int .i64 v.op.side, .int .i64 v.op.frm, .int .i64 v.op.to, .slice S v.op.s.length sc, .slice J v.ins.length ic, .slice none 0 0] 81)
      have hky := Blk.new (wr.alloc (.cells #[.int .i64 v.op.kind, .int .i64 v.op.k, .int .i64 v.op.width, .int .i64 v.op.step, .int .i64 v.op.side, .int .i64 v.op.frm, .int .i64 v.op.to, .slice S v.op.s.length sc, .slice J v.ins.length ic, .slice Q v.p.length qc] 67)) 81 #[.int .i64 v.op.kind, .int .i64 v.op.k, .int .i64 v.op.width, .int .i64 v.op.step, .int .i64 v.op.side, .int .i64 v.op.frm, .int .i64 v.op.to, .slice S v.op.s.length sc, .slice J v.ins.length ic, .slice none 0 0]
      rw [World.size_alloc] at hky
      have hbn : Below wr.heap.size wr ((wr.alloc (.cells #[.int .i64 v.op.kind, .int .i64 v.op.k, .int .i64 v.op.width, .int .i64 v.op.step, .int .i64 v.op.side, .int .i64 v.op.frm, .int .i64 v.op.to, .slice S v.op.s.length sc, .slice J v.ins.length ic, .slice Q v.p.length qc] 67)).alloc (.cells #[.int .i64 v.op.kind, .int .i64 v.op.k, .int .i64 v.op.width, .int .i64 v.op.step, .int .i64 v.op.side, .int .i64 v.op.frm, .int .i64 v.op.to, .slice S v.op.s.length sc, .slice J v.ins.length ic, .slice none 0 0] 81)) := below2 wr _ _
      have Hb1 := Lib.hid hb1
      have Hb2 := Lib.hid hb2
      have Hb3 := Lib.hid hb3
      have Hrow := Lib.hid hrow
      have HNA := Lib.hid hNA
      have Hnok := Lib.hid hnok
      have Htk := Lib.hid htk
      have HSi := Lib.hid hSi
      have HJi := Lib.hid hJi
      have HQi := Lib.hid hQi
      have Hkn := Lib.hid hkn
      have Hky := Lib.hid hky
      clear hb1 hb2 hb3 hrow hNA hnok htk hSi hJi hQi hkn hky
      go_wp2_with fail
      clear y0 y1 y2 y3 y4 y5 y6 y7 y8 y9
      generalize ((wr.alloc (.cells #[.int .i64 v.op.kind, .int .i64 v.op.k, .int .i64 v.op.width, .int .i64 v.op.step, .int .i64 v.op.side, .int .i64 v.op.frm, .int .i64 v.op.to, .slice S v.op.s.length sc, .slice J v.ins.length ic, .slice Q v.p.length qc] 67)).alloc (.cells #[.int .i64 v.op.kind, .int .i64 v.op.k, .int .i64 v.op.width, .int .i64 v.op.step, .int .i64 v.op.side, .int .i64 v.op.frm, .int .i64 v.op.to, .slice S v.op.s.length sc, .slice J v.ins.length ic, .slice none 0 0] 81)) = w2 at *
      obtain ⟨wo, rfl⟩ : ∃ wo, wo = wr := ⟨wr, rfl⟩
      go_loopw [50] (fun i wx => ∃ (m : Nat) (vs : List Value) (u : Value), m ≤ v.p.length ∧ i = .int .i64 (m : Int) ∧ Blk wx wo.heap.size 67 #[.int .i64 v.op.kind, .int .i64 v.op.k, .int .i64 v.op.width, .int .i64 v.op.step, .int .i64 v.op.side, .int .i64 v.op.frm, .int .i64 v.op.to, .slice S v.op.s.length sc, .slice J v.ins.length ic, .slice Q v.p.length qc] ∧ Blk wx (wo.heap.size + 1) 81 #[.int .i64 v.op.kind, .int .i64 v.op.k, .int .i64 v.op.width, .int .i64 v.op.step, .int .i64 v.op.side, .int .i64 v.op.frm, .int .i64 v.op.to, .slice S v.op.s.length sc, .slice J v.ins.length ic, u] ∧ wx.ownsRow (wo.heap.size + 2) 22 1 u m vs ∧ RowOf w0 vs (v.p.take m) ∧ Below wo.heap.size wo wx ∧ wo.heap.size + 2 ≤ wx.heap.size) (fun i _ => v.p.length - (intOf i).toNat)
      case atStart => exact ⟨0, [], _, Nat.zero_le _, rfl, Hkn.out, Hky.out, World.ownsRow_nil _ _ _ _, RowOf.nil _, hbn, by have := Hky.out.lt; omega⟩
      case round =>
        obtain ⟨m, vs, u, hm, rfl, hkn, hky, hown, hro, hbx, hsz⟩ := hrel
        clear Hkn Hky
        obtain ⟨A9, c9, rfl⟩ := own_form hown
        by_cases hlm : m < v.p.length
        · have hbwx := hbw.trans (hbx.mono hbw.size)
          obtain ⟨b5, o5, Ss, cs, rfl, -, hcs, hIs, hs5, hs6⟩ := HQi.out m hlm
          have hcs2 := cell_below (hl0.call hbwx) hcs
          have hpush := hro.push hIs hs5 hs6
          rw [← List.take_succ_eq_append_getElem hlm] at hpush
          have y9 : wr.cell? ⟨wo.heap.size + 1, 9, none⟩ = some (.slice A9 m c9) := by rw [hky.cell]; rfl
          have f9 := hky.frozen 9
          generalize v.p[m] = t at *
          have ho := ownsRow_new hown (.cells #[.slice Ss t.length cs] 22)
          have hbx2 := hbx.alloc hbx.size (.cells #[.slice Ss t.length cs] 22)
          have hkn2 := hkn.alloc (.cells #[.slice Ss t.length cs] 22)
          have hky2 := hky.alloc (.cells #[.slice Ss t.length cs] 22)
          have hlo : ∀ b, (Value.slice A9 m c9).ownBlock = some b → wo.heap.size + 2 ≤ b := fun b hb => (hown.lt b hb).1
          have Hkn := Lib.hid hkn
          have Hky := Lib.hid hky
          have Hro := Lib.hid hro
          have Hpush := Lib.hid hpush
          have Hkn2 := Lib.hid hkn2
          have Hky2 := Lib.hid hky2
          have Hlo := Lib.hid hlo
          have HIs := Lib.hid hIs
          clear hkn hky hro hpush hkn2 hky2 hlo hIs
          clear hown hcs
          go_wp2_with (at_builtin; refine wpList_append_own_at _ rfl _ _ 38 rfl (wo.heap.size + 2) 22 i1 (.slice none 0 0) 1 24 Tryz.underlying38 hj hy0 hy1 hy2 rfl (by decide) _ _ _ rfl ho ⟨wr.heap.size, 0, none⟩ 1 1 [.slice Ss t.length cs] rfl rfl ?c1 (by intro u hu; simp at hu; subst hu; rfl) (by unfold maxLen; omega) (by omega) ?c2 ?_)
          first | (case c1 => exact one_new wr _ _) | skip
          case c2 => first | (simp; omega) | omega
          intro v' w3 hown' hgrow _ hat
          obtain ⟨A8, c8, rfl⟩ := own_form hown'
          have hb3 : Below wo.heap.size wo w3 := hbx2.grown hgrow hbx2.size (fun b hb => by have := Hlo.out b hb; omega)
          have hs3 := hgrow.size
          simp at hs3
          have hkn3 := Hkn2.out.grown hgrow (fun e => by have := Hlo.out _ e.symm; omega)
          have hky3 := Hky2.out.grown hgrow (fun e => by have := Hlo.out _ e.symm; omega)
          have y9' : w3.cell? ⟨wo.heap.size + 1, 9, none⟩ = some (.slice A9 m c9) := by rw [hky3.cell]; rfl
          have f9' := hky3.frozen 9
          have HK := Lib.hid (hkn3.far (p := ⟨wo.heap.size + 1, 9, none⟩) (by simp) (.slice A8 (m + 1) c8))
          have hky4 := hky3.set_ 9 (.slice A8 (m + 1) c8)
          have HY := Lib.hid (show Blk (w3.setCell ⟨wo.heap.size + 1, 9, none⟩ (.slice A8 (m + 1) c8)) (wo.heap.size + 1) 81 #[.int .i64 v.op.kind, .int .i64 v.op.k, .int .i64 v.op.width, .int .i64 v.op.step, .int .i64 v.op.side, .int .i64 v.op.frm, .int .i64 v.op.to, .slice S v.op.s.length sc, .slice J v.ins.length ic, .slice A8 (m + 1) c8] from hky4)
          have hb4 := hb3.setCell (p := ⟨wo.heap.size + 1, 9, none⟩) (by simp) (.slice A8 (m + 1) c8)
          have HO3 := Lib.hid (ownsRow_heap (w' := w3.setCell ⟨wo.heap.size + 1, 9, none⟩ (.slice A8 (m + 1) c8)) hown' (fun g hg => Below.heap_setCell w3 _ _ g (by have := (hown'.lt g hg).1; simp; omega)))
          clear hown' hgrow hat ho hbx2 hkn3 hky3 hky4 y9 f9
          go_wp2_with fail
          go_roundw
          case rel => exact ⟨m + 1, _, _, by omega, by go_num, HK.out, HY.out, HO3.out, Hpush.out, hb4, by simp; omega⟩
          case measure => simp [intOf]; omega
        · obtain rfl : m = v.p.length := by omega
          rw [List.take_length] at hro
          have hbwx := hbw.trans (hbx.mono hbw.size)
          obtain ⟨y0, y1, y2, y3, y4, y5, y6, y7, y8, y9⟩ : wr.cell? ⟨wo.heap.size + 1, 0, none⟩ = some (.int .i64 v.op.kind) ∧ wr.cell? ⟨wo.heap.size + 1, 1, none⟩ = some (.int .i64 v.op.k) ∧ wr.cell? ⟨wo.heap.size + 1, 2, none⟩ = some (.int .i64 v.op.width) ∧ wr.cell? ⟨wo.heap.size + 1, 3, none⟩ = some (.int .i64 v.op.step) ∧ wr.cell? ⟨wo.heap.size + 1, 4, none⟩ = some (.int .i64 v.op.side) ∧ wr.cell? ⟨wo.heap.size + 1, 5, none⟩ = some (.int .i64 v.op.frm) ∧ wr.cell? ⟨wo.heap.size + 1, 6, none⟩ = some (.int .i64 v.op.to) ∧ wr.cell? ⟨wo.heap.size + 1, 7, none⟩ = some (.slice S v.op.s.length sc) ∧ wr.cell? ⟨wo.heap.size + 1, 8, none⟩ = some (.slice J v.ins.length ic) ∧ wr.cell? ⟨wo.heap.size + 1, 9, none⟩ = some (.slice A9 v.p.length c9) := ⟨hky.cell 0, hky.cell 1, hky.cell 2, hky.cell 3, hky.cell 4, hky.cell 5, hky.cell 6, hky.cell 7, hky.cell 8, hky.cell 9⟩
          obtain ⟨L, hL, hOL, hGL⟩ := Hrow.out
          obtain ⟨A0, c0, rfl, h00⟩ := hOL.form
          have hkl : L.length = k := by have := congrArg List.length hL; simp at this; omega
          have hb3x := Hb3.out.below hbx (by omega)
          have hb1x := Hb1.out.below hbx (by have := Hb1.out.lt; omega)
          have hb2x := Hb2.out.below hbx (by have := Hb2.out.lt; omega)
          rw [hkl] at h00
          have hfrx : Fr (fun b => wo.heap.size ≤ b) wo wr := Fr.of_below hbx (fun b hb hS => by omega)
          have hOx := (hOL.fr hfrx (fun b h1 h2 h3 => by omega)).fr ((Fr.refl (fun _ => False) wr).alloc (.cells #[.int .i64 v.op.kind, .int .i64 v.op.k, .int .i64 v.op.width, .int .i64 v.op.step, .int .i64 v.op.side, .int .i64 v.op.frm, .int .i64 v.op.to, .slice S v.op.s.length sc, .slice J v.ins.length ic, .slice A9 v.p.length c9] 81)) (fun b h1 h2 h3 => h3)
          have hownx := ownsRow_new hown (.cells #[.int .i64 v.op.kind, .int .i64 v.op.k, .int .i64 v.op.width, .int .i64 v.op.step, .int .i64 v.op.side, .int .i64 v.op.frm, .int .i64 v.op.to, .slice S v.op.s.length sc, .slice J v.ins.length ic, .slice A9 v.p.length c9] 81)
          have hb3y := hb3x.alloc (.cells #[.int .i64 v.op.kind, .int .i64 v.op.k, .int .i64 v.op.width, .int .i64 v.op.step, .int .i64 v.op.side, .int .i64 v.op.frm, .int .i64 v.op.to, .slice S v.op.s.length sc, .slice J v.ins.length ic, .slice A9 v.p.length c9] 81)
          have hb1y := hb1x.alloc (.cells #[.int .i64 v.op.kind, .int .i64 v.op.k, .int .i64 v.op.width, .int .i64 v.op.step, .int .i64 v.op.side, .int .i64 v.op.frm, .int .i64 v.op.to, .slice S v.op.s.length sc, .slice J v.ins.length ic, .slice A9 v.p.length c9] 81)
          have hb2y := hb2x.alloc (.cells #[.int .i64 v.op.kind, .int .i64 v.op.k, .int .i64 v.op.width, .int .i64 v.op.step, .int .i64 v.op.side, .int .i64 v.op.frm, .int .i64 v.op.to, .slice S v.op.s.length sc, .slice J v.ins.length ic, .slice A9 v.p.length c9] 81)
          have hbwy := hbwx.alloc hbwx.size (.cells #[.int .i64 v.op.kind, .int .i64 v.op.k, .int .i64 v.op.width, .int .i64 v.op.step, .int .i64 v.op.side, .int .i64 v.op.frm, .int .i64 v.op.to, .slice S v.op.s.length sc, .slice J v.ins.length ic, .slice A9 v.p.length c9] 81)
          have hd6 := Blk.new wr 81 #[.int .i64 v.op.kind, .int .i64 v.op.k, .int .i64 v.op.width, .int .i64 v.op.step, .int .i64 v.op.side, .int .i64 v.op.frm, .int .i64 v.op.to, .slice S v.op.s.length sc, .slice J v.ins.length ic, .slice A9 v.p.length c9]
          have hlo : ∀ b, (Value.slice A0 L.length c0).ownBlock = some b → w.heap.size + 3 ≤ b := fun b hb => (hOL.1.lt b hb).1
          rw [hkl] at hlo
          have z1 : wr.cell? ⟨w.heap.size + 2, 1, none⟩ = some (.slice A0 k c0) := by rw [hb3x.cell, hkl]; rfl
          have hO1 := hOx.1
          rw [hkl] at hO1
          have Hkn := Lib.hid hkn
          have Hky := Lib.hid hky
          have Hown := Lib.hid hown
          have Hro := Lib.hid hro
          have Hb3x := Lib.hid hb3x
          have Hb1x := Lib.hid hb1x
          have Hb2x := Lib.hid hb2x
          have HOx := Lib.hid hOx
          have Hownx := Lib.hid hownx
          have Hb3y := Lib.hid hb3y
          have Hb1y := Lib.hid hb1y
          have Hb2y := Lib.hid hb2y
          have Hd6 := Lib.hid hd6
          have Hlo := Lib.hid hlo
          have HL := Lib.hid hL
          have HGL := Lib.hid hGL
          have HOL := Lib.hid hOL
          have Hkl := Lib.hid hkl
          have HO1 := Lib.hid hO1
          clear hkn hky hown hro hb3x hb1x hb2x hOx hownx hb3y hb1y hb2y hd6 hlo hL hGL hOL hkl hO1
          clear Hrow Hb1 Hb2 Hb3 hfrx
          go_wp2_with (at_builtin; refine wpList_append_own_at _ rfl _ _ 41 rfl (w.heap.size + 3) 81 i2 (.agg #[.int .i64 0, .int .i64 0, .int .i64 0, .int .i64 0, .int .i64 0, .int .i64 0, .int .i64 0, .slice none 0 0, .slice none 0 0, .slice none 0 0]) 10 128 Tryz.underlying41 hn hn0 hn1 hn2 rfl (by decide) _ k (L.flatMap RQ.cells) rfl HO1.out ⟨wr.heap.size, 0, none⟩ 1 1 [.int .i64 v.op.kind, .int .i64 v.op.k, .int .i64 v.op.width, .int .i64 v.op.step, .int .i64 v.op.side, .int .i64 v.op.frm, .int .i64 v.op.to, .slice S v.op.s.length sc, .slice J v.ins.length ic, .slice A9 v.p.length c9] rfl rfl ?c1 ?c2 ?c3 ?c4 ?c5 ?_)
          case c1 => exact World.news_of_block (cs := #[.int .i64 v.op.kind, .int .i64 v.op.k, .int .i64 v.op.width, .int .i64 v.op.step, .int .i64 v.op.side, .int .i64 v.op.frm, .int .i64 v.op.to, .slice S v.op.s.length sc, .slice J v.ins.length ic, .slice A9 v.p.length c9]) Hd6.out
          case c2 => intro u hu; simp at hu; rcases hu with rfl | rfl | rfl | rfl | rfl | rfl | rfl | rfl | rfl | rfl <;> rfl
          case c3 => unfold maxLen; omega
          case c4 => omega
          case c5 => simp; omega
          intro v7 w7 hown7 hg7 _ hat7
          obtain ⟨A7, c7, rfl⟩ := own_form hown7
          have hsa : wr.heap.size + 1 = (wr.alloc (.cells #[.int .i64 v.op.kind, .int .i64 v.op.k, .int .i64 v.op.width, .int .i64 v.op.step, .int .i64 v.op.side, .int .i64 v.op.frm, .int .i64 v.op.to, .slice S v.op.s.length sc, .slice J v.ins.length ic, .slice A9 v.p.length c9] 81)).heap.size := by simp
          rw [hsa] at hat7
          clear hsa
          have hkl := Hkl.out
          generalize (wr.alloc (.cells #[.int .i64 v.op.kind, .int .i64 v.op.k, .int .i64 v.op.width, .int .i64 v.op.step, .int .i64 v.op.side, .int .i64 v.op.frm, .int .i64 v.op.to, .slice S v.op.s.length sc, .slice J v.ins.length ic, .slice A9 v.p.length c9] 81)) = w6 at *
          have hg8 := hg7
          rw [← hkl] at hown7 hg8 hat7
          have hpush := refrow_push (x := (⟨v, S, sc, J, ic, A9, c9⟩ : NodeQ)) (vs := vs) HOx.out HGL.out (C2 := wo.heap.size + 2) (by omega) (by omega) hown7 hg8 hat7 Hownx.out ⟨⟨HSi.out, hs1⟩, ⟨HJi.out, hI1⟩, Hro.out⟩
          rw [HL.out] at hpush
          have hpush : RefRow 81 (w.heap.size + 3) w7.heap.size w0 w7 (.slice A7 (L.length + 1) c7) (n.nodes.take (k + 1)) := by rw [Htk.out]; exact hpush
          rw [hkl] at hpush
          have hb3z := Hb3y.out.grown hg7 (fun e => by have := Hlo.out _ e.symm; omega)
          have hb1z := Hb1y.out.grown hg7 (fun e => by have := Hlo.out _ e.symm; omega)
          have hb2z := Hb2y.out.grown hg7 (fun e => by have := Hlo.out _ e.symm; omega)
          rw [hkl] at hb3z
          have hbwz : Below w.heap.size w w7 := hbwy.grown hg7 hbwy.size (fun b hb => by have := Hlo.out b hb; omega)
          have z1' : w7.cell? ⟨w.heap.size + 2, 1, none⟩ = some (.slice A0 k c0) := by rw [hb3z.cell]; rfl
          have f1' := hb3z.frozen 1
          have hfs : Fr (fun b => b = w.heap.size + 2) w7 (w7.setCell ⟨w.heap.size + 2, 1, none⟩ (.slice A7 (k + 1) c7)) := (Fr.refl (fun b => b = w.heap.size + 2) w7).setCell (p := ⟨w.heap.size + 2, 1, none⟩) (fun _ => rfl) (.slice A7 (k + 1) c7)
          have HP := Lib.hid (hpush.fr hfs (fun b h1 h2 h3 => by omega))
          have H1 := Lib.hid (hfs.blk hb1z (by omega))
          have H2 := Lib.hid (hfs.blk hb2z (by omega))
          have h3 := hb3z.set_ 1 (.slice A7 (k + 1) c7)
          have H3 := Lib.hid (show Blk (w7.setCell ⟨w.heap.size + 2, 1, none⟩ (.slice A7 (k + 1) c7)) (w.heap.size + 2) 43 #[.slice A n.inn.length c, .slice A7 (k + 1) c7] from h3)
          have H4 := Lib.hid (hbwz.setCell (p := ⟨w.heap.size + 2, 1, none⟩) (by simp) (.slice A7 (k + 1) c7))
          clear hown7 hg7 hg8 hat7 hpush hb3z hb1z hb2z hbwz hfs h3 hkl hbwy hbwx
          go_wp2_with fail
          go_roundw
          case rel => exact ⟨k + 1, by omega, by go_num, H1.out, H2.out, H4.out, _, H3.out, by simpa using HP.out⟩
          case measure => simp [intOf]; omega
    · obtain rfl : k = n.nodes.length := by omega
      rw [List.take_length] at hrow
      obtain ⟨N', d', rfl, hd1, hd2, -⟩ := hrow.nodes (hl0.call hbw)
      have hfr : Fr (fun b => b = w.heap.size + 1) wr ((wr.setCell ⟨w.heap.size + 1, 0, none⟩ (.slice A n.inn.length c)).setCell ⟨w.heap.size + 1, 1, none⟩ (.slice N' n.nodes.length d')) := ((Fr.refl (fun b => b = w.heap.size + 1) wr).setCell (p := ⟨w.heap.size + 1, 0, none⟩) (fun _ => rfl) _).setCell (p := ⟨w.heap.size + 1, 1, none⟩) (fun _ => rfl) _
      have hbw2 : Below w.heap.size w ((wr.setCell ⟨w.heap.size + 1, 0, none⟩ (.slice A n.inn.length c)).setCell ⟨w.heap.size + 1, 1, none⟩ (.slice N' n.nodes.length d')) := (hbw.setCell (p := ⟨w.heap.size + 1, 0, none⟩) (by simp) _).setCell (p := ⟨w.heap.size + 1, 1, none⟩) (by simp) _
      have HRw := Lib.hid (hrow.fr hfr (fun b h1 h2 h3 => by omega))
      have z0 : wr.cell? ⟨w.heap.size + 2, 0, none⟩ = some (.slice A n.inn.length c) := by rw [hb3.cell]; rfl
      have z1 : wr.cell? ⟨w.heap.size + 2, 1, none⟩ = some (.slice N' n.nodes.length d') := by rw [hb3.cell]; rfl
      have r0 : wr.cell? ⟨w.heap.size + 1, 0, none⟩ = some (.slice none 0 0) := by rw [hb2.cell]; rfl
      have r1 : wr.cell? ⟨w.heap.size + 1, 1, none⟩ = some (.slice none 0 0) := by rw [hb2.cell]; rfl
      have f0 := hb2.frozen 0
      have f1 := hb2.frozen 1
      clear hfr
      have Hb1 := Lib.hid hb1
      have Hb2 := Lib.hid hb2
      have Hb3 := Lib.hid hb3
      have Hrow := Lib.hid hrow
      clear hb1 hb2 hb3 hrow
      go_wp2_with fail
      exact bodyPost_ret (v := .agg #[.slice A n.inn.length c, .slice N' n.nodes.length d']) (by simp [results, Tryz.results9, go_sem, r0, r1]) rfl ⟨N', d', _, rfl, hd1, hd2, hbw2, HRw.out⟩
theorem ref_18 (A N : Option Addr) (c d : Nat) (n : NetD) (w : World) (hok : n.ok) (hR : NetR w A N n) :
    Calls Tryz.prog 9 #[.agg #[.slice A n.inn.length c, .slice N n.nodes.length d]] w (RefNetP n A c w) :=
  (ref_18s A N c d n w w hok (Later.refl _) hR).mono fun _ _ h => h.netp hR
end Go.Proofs.YtmmgdgfpemkdnaaGreat
/- The plain law of layer 18: a whole plan by the document's answer. -/
namespace Go.Proofs.YtmmgdgfpemkdnaaGreat
namespace Rf
variable {c : CkN} {s : CkS} {x y : RfS}
theorem base_ok {n : NetD} (h : Nt.check n = 0) (hok : n.ok) (cap : Int) : RfC n (Ck.base n cap) := by
  obtain ⟨h1, h2, h3, h4, h5, h6, h7, h8⟩ := Nt.check_ok h
  have hw := Nt.words_len h
  obtain ⟨-, l1, l2⟩ := Nt.loss_mem h7
  refine ⟨hok, h2, hw, Nt.words_bd h, fun k hk => ?_, fun k hk i hi => ?_, ?_, ?_⟩
  · show ([] :: n.nodes.map (·.ins)).getD ((k + 1 : Nat) : Int).toNat [] = _
    rw [Int.toNat_natCast, List.getD_cons_succ, List.getD_eq_getElem?_getD, List.getElem?_map, List.getElem?_eq_getElem hk]
    rfl
  · obtain ⟨-, hb⟩ := Nt.bads_all h4 _ (List.getElem_mem hk)
    have := hb i hi
    show 0 ≤ i ∧ i < ((Nt.words n).length : Int)
    omega
  · show (Nt.sorted n.nodes).length ≤ 512; omega
  · show 1 ≤ Nt.loss n.nodes ∧ Nt.loss n.nodes < ((Nt.words n).length : Int); omega
theorem base_zero (n : NetD) (cap : Int) : Ck.insF (Ck.base n cap) 0 = [] := rfl
theorem base_pok {n : NetD} (h : Nt.check n = 0) (hok : n.ok) (cap : Int) : POk (Ck.base n cap) := (base_ok h hok cap).pok rfl
theorem base_start {n : NetD} (h : Nt.check n = 0) (hok : n.ok) (cap : Int) : PRel (Ck.base n cap) (Ck.start (n.nodes.length + 1)) start := by
  have hw := Nt.words_len h
  have := start_rel (base_pok h hok cap) (show 1 ≤ (Nt.words n).length by omega)
  rw [show (Ck.base n cap).words.length = n.nodes.length + 1 from hw] at this
  exact this
theorem do_ok {k id : Int} (h : (do_ c x k id).2 = 0) : id < c.words.length ∧ legal c x k id = true ∧ (do_ c x k id).1 = fin c (step c x k id) k id := by
  unfold do_ at h ⊢
  split at h
  · simp at h
  · rename_i h1
    split at h
    · simp at h
    · rename_i h2
      split at h
      · simp at h
      · rename_i h3
        rw [if_neg h1, if_neg h2, if_neg h3]
        exact ⟨by omega, by simpa using h2, rfl⟩
theorem count_cons (kind : Int) (p : Int × Int) (r : List (Int × Int)) : Cd.count kind (p :: r) = (if p.1 = kind then 1 else 0) + Cd.count kind r := by
  show (if (p.1 == kind) = true then 1 else 0) + Cd.count kind r = _
  simp only [beq_iff_eq]
theorem do_count (hc : POk c) (hP : PRel c s x) {k id : Int} (hr : Cd.right (k, id) = true) (h : (do_ c x k id).2 = 0) :
    ((do_ c x k id).1.there.length : Int) + (if k = 3 then 1 else 0) = x.there.length + (if k = 1 then 1 else 0) + (if k = 2 then 1 else 0) := by
  obtain ⟨hid, hl, he⟩ := do_ok h
  rw [he]
  have hf : (fin c (step c x k id) k id).there = (step c x k id).there := rfl
  rw [hf]
  rcases (right_k hr).2 with rfl | rfl | rfl | rfl | rfl | rfl
  · have hn : x.there.contains id = false := by
      have hl : ((x.saved.contains id == false) && (!x.there.contains id && ready c x id)) = true := hl
      simp at hl ⊢; exact hl.2.1
    show ((with_ x.there id).length : Int) + 0 = x.there.length + 1 + 0
    unfold with_; rw [if_neg (by rw [hn]; simp)]; simp
  · have hn : x.there.contains id = false := by
      have hl : ((x.saved.contains id == true) && (!x.there.contains id && ready c x id)) = true := hl
      simp at hl ⊢; exact hl.2.1
    show ((with_ x.there id).length : Int) + 0 = x.there.length + 0 + 1
    unfold with_; rw [if_neg (by rw [hn]; simp)]; simp
  · have hin : id ∈ x.there := by
      have : x.there.contains id = true := hl
      simpa using this
    have := length_without hP.there.nod hin
    show ((without x.there id).length : Int) + 1 = x.there.length + 0 + 0
    omega
  · show (x.there.length : Int) + 0 = x.there.length + 0 + 0; omega
  · show (x.there.length : Int) + 0 = x.there.length + 0 + 0; omega
  · show (x.there.length : Int) + 0 = x.there.length + 0 + 0; omega
theorem go_cons {i : Int × Int} {r : List (Int × Int)} (h : (go c x (i :: r)).2 = 0) : (do_ c x i.1 i.2).2 = 0 ∧ go c x (i :: r) = go c (do_ c x i.1 i.2).1 r := by
  have e : go c x (i :: r) = if (do_ c x i.1 i.2).2 = 0 then go c (do_ c x i.1 i.2).1 r else do_ c x i.1 i.2 := rfl
  rw [e] at h ⊢
  split at h
  · rename_i h0; rw [if_pos h0]; exact ⟨h0, rfl⟩
  · rename_i h0; exact absurd h h0
theorem go_count (hc : POk c) : ∀ {ps : List (Int × Int)} {s : CkS} {x : RfS}, PRel c s x → ps.all Cd.right = true → (go c x ps).2 = 0 →
    ((go c x ps).1.there.length : Int) + Cd.count 3 ps = x.there.length + Cd.count 1 ps + Cd.count 2 ps
  | [], s, x, _, _, _ => by simp [go, Cd.count]
  | i :: r, s, x, hP, ha, h => by
    rw [List.all_cons, Bool.and_eq_true] at ha
    obtain ⟨h1, h2⟩ := go_cons h
    have hd := do_count hc hP (k := i.1) (id := i.2) ha.1 h1
    have hP2 := (do_same hc hP (k := i.1) (id := i.2) ha.1).2
    rw [h2] at h ⊢
    have ih := go_count hc hP2 ha.2 h
    rw [count_cons, count_cons, count_cons]
    omega
theorem go_ids : ∀ {ps : List (Int × Int)} {x : RfS}, (go c x ps).2 = 0 → ∀ p ∈ ps, p.2 < c.words.length
  | [], _, _, p, hp => by cases hp
  | i :: r, x, h, p, hp => by
    obtain ⟨h1, h2⟩ := go_cons h
    rw [h2] at h
    rcases List.mem_cons.1 hp with rfl | hp
    · exact (do_ok h1).1
    · exact go_ids h p hp
theorem costList_len (cost : List Int) : ∀ ps : List (Int × Int), ((Cd.costList cost ps).length : Int) = Cd.count 1 ps + Cd.count 2 ps
  | [] => by simp [Cd.costList, Cd.count]
  | p :: r => by
    have ih := costList_len cost r
    rw [count_cons, count_cons]
    unfold Cd.costList at ih ⊢
    rw [List.filter_cons]
    have hk : Cd.reck p = decide (p.1 = 1 ∨ p.1 = 2) := by unfold Cd.reck; rw [Bool.eq_iff_iff]; simp
    rw [hk]
    split
    · rename_i h; simp at h
      rw [List.length_map] at ih
      rw [List.length_map, List.length_cons]
      rcases h with h | h
      · rw [if_pos h, if_neg (by omega)]; omega
      · rw [if_neg (by omega), if_pos h]; omega
    · rename_i h; simp at h
      rw [if_neg h.1, if_neg h.2]; omega
theorem count_all (ps : List (Int × Int)) : Cd.count 1 ps + Cd.count 2 ps + Cd.count 3 ps ≤ ps.length := by
  induction ps with
  | nil => simp [Cd.count]
  | cons p r ih =>
    rw [count_cons, count_cons, count_cons, List.length_cons]
    by_cases h1 : p.1 = 1
    · simp [h1]; omega
    · by_cases h2 : p.1 = 2
      · simp [h2]; omega
      · by_cases h3 : p.1 = 3
        · simp [h3]; omega
        · simp [h1, h2, h3]; omega
theorem costs_le {n : NetD} (h : Nt.check n = 0) (k : Nat) : 0 ≤ (Nt.costs n).getD k 0 ∧ (Nt.costs n).getD k 0 ≤ 4294967296 := by
  rw [List.getD_eq_getElem?_getD]
  rcases Nat.lt_or_ge k (Nt.costs n).length with hl | hl
  · rw [List.getElem?_eq_getElem hl]
    have := List.getElem_mem hl
    rcases List.mem_cons.1 this with e | hm
    · show 0 ≤ (Nt.costs n)[k] ∧ (Nt.costs n)[k] ≤ _
      rw [e]; omega
    · exact Nt.costs_bd h n.nodes.length (Nat.le_refl _) _ hm
  · rw [List.getElem?_eq_none hl]; simp
theorem costList_bd {n : NetD} (h : Nt.check n = 0) (ps : List (Int × Int)) : ∀ z ∈ Cd.costList (Nt.costs n) ps, 0 ≤ z ∧ z ≤ 4294967296 := fun z hz => by
  unfold Cd.costList at hz
  obtain ⟨p, _, rfl⟩ := List.mem_map.1 hz
  exact costs_le h _
theorem cost_part {n : NetD} (h : Nt.check n = 0) (ps : List (Int × Int)) : 0 ≤ Safe.sum (Cd.costList (Nt.costs n) ps) ∧ Safe.sum (Cd.costList (Nt.costs n) ps) ≤ ps.length * 4294967296 := by
  have h1 := Nt.sum_bd (costList_bd h ps)
  have h2 := Cd.costList_le (Nt.costs n) ps
  have h3 : ((Cd.costList (Nt.costs n) ps).length : Int) * 4294967296 ≤ ps.length * 4294967296 := Int.mul_le_mul_of_nonneg_right (by omega) (by omega)
  omega
theorem costs_run {n : NetD} (h : Nt.check n = 0) (hok : n.ok) {cap : Int} {ps : List (Int × Int)} (hs : 3 * n.nodes.length + ps.length ≤ 400) (ha : ps.all Cd.right = true) (hz : (go (Ck.base n cap) start ps).2 = 0) :
    Cd.costs ps (Nt.costs n) = (Safe.sum (Cd.costList (Nt.costs n) ps), 0) := by
  have hw := Nt.words_len h
  have hP := base_start h hok cap
  have hcnt := go_count (base_pok h hok cap) hP ha hz
  have hP2 := (go_same (base_pok h hok cap) hP ha).2
  have hlen := nodup_len _ _ hP2.there.nod hP2.there.rng
  have hlen : (go (Ck.base n cap) start ps).1.there.length ≤ n.nodes.length + 1 := by
    have e : (Ck.base n cap).words.length = n.nodes.length + 1 := hw
    omega
  have hall := count_all ps
  have hcl := costList_len (Nt.costs n) ps
  have h0 : ((start : RfS).there.length : Int) = 1 := rfl
  have h200 : ((Cd.costList (Nt.costs n) ps).length : Int) ≤ 200 := by omega
  have hsum := Nt.sum_bd (costList_bd h ps)
  have hb : ((Cd.costList (Nt.costs n) ps).length : Int) * 4294967296 ≤ 200 * 4294967296 := Int.mul_le_mul_of_nonneg_right h200 (by omega)
  refine Cd.costs_sum (Cd.check_ok (by omega) ha) ?_ (by rw [Safe.top_eq]; omega)
  rw [List.all_eq_true]
  intro p hp
  unfold Cd.fine Cd.costOk
  have hid := go_ids hz p hp
  have hid : p.2 < ((Nt.words n).length : Int) := hid
  have hcl2 : (Nt.costs n).length = n.nodes.length + 1 := by rw [Nt.costs, List.length_cons, Nt.costsTo_len]
  have h1 := costs_le h p.2.toNat
  have h2 : Safe.ok ((Nt.costs n).getD p.2.toNat 0) = true := by rw [Safe.ok_iff]; omega
  rw [h2, decide_eq_true (by omega)]
  simp
theorem maxTo_max (l : List Int) : ∀ a b : Int, Safe.maxTo (max a b) l = max a (Safe.maxTo b l) := by
  induction l with
  | nil => intro a b; rfl
  | cons z r ih =>
    intro a b
    show Safe.maxTo (if max a b < z then z else max a b) r = max a (Safe.maxTo (if b < z then z else b) r)
    rw [← ih]
    congr 1
    split <;> split <;> omega
theorem run_form {n : NetD} {cap : Int} {ps : List (Int × Int)} (h : Nt.check n = 0) (hl : ps.length ≤ 400) (ha : ps.all Cd.right = false) : Ck.run n ps cap = ((0, 0, 0, 0), 10) := by
  have hc := Cd.check_form (ps := ps) (by omega) ha
  unfold Ck.run
  rw [if_neg (by simp [h]), if_pos (by rw [hc]; decide), hc]
theorem run_bad {n : NetD} {cap : Int} {ps : List (Int × Int)} (h : Nt.check n = 0) (hok : n.ok) (hl : ps.length ≤ 400) (ha : ps.all Cd.right = true) (hz : (go (Ck.base n cap) start ps).2 ≠ 0) : Ck.run n ps cap = ((0, 0, 0, 0), (go (Ck.base n cap) start ps).2) := by
  have hc := Cd.check_ok (ps := ps) (by omega) ha
  have hs := (go_same (base_pok h hok cap) (base_start h hok cap) ha).1
  unfold Ck.run
  rw [if_neg (by simp [h]), if_neg (by simp [hc]), hs, if_pos hz]
theorem run_good {n : NetD} {cap : Int} {ps : List (Int × Int)} (h : Nt.check n = 0) (hok : n.ok) (hs : 3 * n.nodes.length + ps.length ≤ 400) (ha : ps.all Cd.right = true) {x : RfS} (hz : go (Ck.base n cap) start ps = (x, 0)) :
    Ck.run n ps cap = if x.em = 0 ∨ x.done < ((Nt.sorted n.nodes).length : Int) then ((0, 0, 0, 0), 28) else ((x.peak, Safe.sum (Cd.costList (Nt.costs n) ps), Cd.count 2 ps, Safe.maxTo x.peak ((Nt.words n).drop 1)), 0) := by
  have hc := Cd.check_ok (ps := ps) (by omega) ha
  obtain ⟨h1, h2⟩ := go_same (base_pok h hok cap) (base_start h hok cap) ha
  have hcs := costs_run h hok (cap := cap) hs ha (by rw [hz])
  rw [hz] at h1 h2
  unfold Ck.run
  rw [if_neg (by simp [h]), if_neg (by simp [hc]), h1, if_neg (by simp), hcs]
  generalize (Ck.go (Ck.base n cap) (Ck.start (n.nodes.length + 1)) ps).1 = s at *
  have hdl : s.done ≤ (Nt.sorted n.nodes).length := h2.dl
  have hdn : x.done = s.done := h2.done
  have hem : x.em = if s.em then 1 else 0 := h2.em
  have hwh : Ck.whole (Ck.base n cap) s = false ↔ (x.em = 0 ∨ x.done < ((Nt.sorted n.nodes).length : Int)) := by
    show (s.em && decide (s.done = (Nt.sorted n.nodes).length)) = false ↔ _
    rw [hem, hdn]
    cases s.em
    · simp
    · simp; omega
  by_cases hw : Ck.whole (Ck.base n cap) s = false
  · rw [if_pos hw, if_pos (hwh.1 hw)]
  · rw [if_neg hw, if_neg (fun q => hw (hwh.2 q)), if_neg (by simp)]
    have hp : s.peak = x.peak := h2.peak
    have hnn : 0 ≤ x.peak := by
      have g1 := h2.np
      have g2 := h2.now
      have g3 := sumF_nn (tw_nn (base_pok h hok cap)) x.there
      have g4 := sumF_nn (wd_nn (base_pok h hok cap)) x.grads
      have g2 : s.now = sumF (tw (Ck.base n cap)) x.there + sumF (Ck.wd (Ck.base n cap)) x.grads := g2
      omega
    have hm := maxTo_max ((Nt.words n).drop 1) x.peak 0
    rw [show max x.peak 0 = x.peak by omega] at hm
    rw [hp, hm]
    rfl
/-- Behind k instructions. -/
theorem go_step {ps : List (Int × Int)} {k : Nat} (hk : k < ps.length) (h : go c x (ps.take k) = (y, 0)) : go c x (ps.take (k + 1)) = do_ c y ps[k].1 ps[k].2 := by
  rw [List.take_succ_eq_append_getElem hk, go_snoc c x (ps.take k) ps[k] (by rw [h]), h]
theorem go_stop {ps : List (Int × Int)} {k : Nat} (h : (go c x (ps.take k)).2 ≠ 0) : go c x ps = go c x (ps.take k) := by
  have := go_fail c x (ps.take k) (ps.drop k) h
  rwa [List.take_append_drop] at this
theorem rel_at {n : NetD} (h : Nt.check n = 0) (hok : n.ok) {cap : Int} {ps : List (Int × Int)} (ha : ps.all Cd.right = true) : PRel (Ck.base n cap) (Ck.go (Ck.base n cap) (Ck.start (n.nodes.length + 1)) ps).1 (go (Ck.base n cap) start ps).1 :=
  (go_same (base_pok h hok cap) (base_start h hok cap) ha).2
end Rf
end Go.Proofs.YtmmgdgfpemkdnaaGreat
/- A document's state of layer 18 in a box of the caller's. -/
namespace Go.Proofs.YtmmgdgfpemkdnaaGreat
open Go.RowKit
theorem array_set13 (cs : Array Value) (h : cs.size = 13) (a0 a1 a2 a3 a4 a5 a6 a7 a8 a9 a10 a11 a12 : Value) : ((((((((((((cs.setIfInBounds 0 a0).setIfInBounds 1 a1).setIfInBounds 2 a2).setIfInBounds 3 a3).setIfInBounds 4 a4).setIfInBounds 5 a5).setIfInBounds 6 a6).setIfInBounds 7 a7).setIfInBounds 8 a8).setIfInBounds 9 a9).setIfInBounds 10 a10).setIfInBounds 11 a11).setIfInBounds 12 a12 = #[a0, a1, a2, a3, a4, a5, a6, a7, a8, a9, a10, a11, a12] := by
  obtain ⟨l⟩ := cs
  match l, h with
  | [x0, x1, x2, x3, x4, x5, x6, x7, x8, x9, x10, x11, x12], _ => simp only [List.setIfInBounds_toArray, List.set_cons_zero, List.set_cons_succ]
theorem Blk.set13 {w : World} {g : Nat} {t : TypeId} {cs : Array Value} (h : Blk w g t cs) (hs : cs.size = 13) (a0 a1 a2 a3 a4 a5 a6 a7 a8 a9 a10 a11 a12 : Value) : Blk (((((((((((((w.setCell ⟨g, 0, none⟩ a0).setCell ⟨g, 1, none⟩ a1).setCell ⟨g, 2, none⟩ a2).setCell ⟨g, 3, none⟩ a3).setCell ⟨g, 4, none⟩ a4).setCell ⟨g, 5, none⟩ a5).setCell ⟨g, 6, none⟩ a6).setCell ⟨g, 7, none⟩ a7).setCell ⟨g, 8, none⟩ a8).setCell ⟨g, 9, none⟩ a9).setCell ⟨g, 10, none⟩ a10).setCell ⟨g, 11, none⟩ a11).setCell ⟨g, 12, none⟩ a12) g t #[a0, a1, a2, a3, a4, a5, a6, a7, a8, a9, a10, a11, a12] := by
  have k := ((((((((((((h.set_ 0 a0).set_ 1 a1).set_ 2 a2).set_ 3 a3).set_ 4 a4).set_ 5 a5).set_ 6 a6).set_ 7 a7).set_ 8 a8).set_ 9 a9).set_ 10 a10).set_ 11 a11).set_ 12 a12
  rw [array_set13 cs hs] at k
  exact k
theorem fr13 {g : Nat} {wb w : World} (h : Fr (fun b => b = g) wb w) (a0 a1 a2 a3 a4 a5 a6 a7 a8 a9 a10 a11 a12 : Value) : Fr (fun b => b = g) wb (((((((((((((w.setCell ⟨g, 0, none⟩ a0).setCell ⟨g, 1, none⟩ a1).setCell ⟨g, 2, none⟩ a2).setCell ⟨g, 3, none⟩ a3).setCell ⟨g, 4, none⟩ a4).setCell ⟨g, 5, none⟩ a5).setCell ⟨g, 6, none⟩ a6).setCell ⟨g, 7, none⟩ a7).setCell ⟨g, 8, none⟩ a8).setCell ⟨g, 9, none⟩ a9).setCell ⟨g, 10, none⟩ a10).setCell ⟨g, 11, none⟩ a11).setCell ⟨g, 12, none⟩ a12) :=
  ((((((((((((h.setCell (p := ⟨g, 0, none⟩) (fun _ => rfl) a0).setCell (p := ⟨g, 1, none⟩) (fun _ => rfl) a1).setCell (p := ⟨g, 2, none⟩) (fun _ => rfl) a2).setCell (p := ⟨g, 3, none⟩) (fun _ => rfl) a3).setCell (p := ⟨g, 4, none⟩) (fun _ => rfl) a4).setCell (p := ⟨g, 5, none⟩) (fun _ => rfl) a5).setCell (p := ⟨g, 6, none⟩) (fun _ => rfl) a6).setCell (p := ⟨g, 7, none⟩) (fun _ => rfl) a7).setCell (p := ⟨g, 8, none⟩) (fun _ => rfl) a8).setCell (p := ⟨g, 9, none⟩) (fun _ => rfl) a9).setCell (p := ⟨g, 10, none⟩) (fun _ => rfl) a10).setCell (p := ⟨g, 11, none⟩) (fun _ => rfl) a11).setCell (p := ⟨g, 12, none⟩) (fun _ => rfl) a12
theorem RfRow.fr {g : Nat} {w W : World} {A : Option Addr} {l : List Int} (k : RfRow g g w A l) (hf : Fr (fun b => b = g) w W) : Ints .i64 W A l := by
  by_cases hl : l = []
  · subst hl; exact fun j hj => absurd hj (by simp)
  · exact hf.ints k.1 (fun a e q => k.2 hl a e (by subst q; exact ⟨Nat.le_refl _, Nat.le_refl _⟩))
theorem RfRow.of {g : Nat} {w : World} {A : Option Addr} {l : List Int} (k : Ints .i64 w A l) (h : l ≠ [] → ∀ a, A = some a → a.block ≠ g) : RfRow g g w A l := ⟨k, fun hl a e q => h hl a e (by omega)⟩
theorem RfV.Off.old {V : RfV} {x : RfS} {w : World} {g : Nat} (h : V.At x w) (hg : w.heap.size ≤ g) : V.Off x g :=
  ⟨fun hl a e q => (RfRow.old (m := g) h.there hg).2 hl a e (by subst q; exact ⟨Nat.le_refl _, Nat.le_refl _⟩), fun hl a e q => (RfRow.old (m := g) h.saved hg).2 hl a e (by subst q; exact ⟨Nat.le_refl _, Nat.le_refl _⟩), fun hl a e q => (RfRow.old (m := g) h.grads hg).2 hl a e (by subst q; exact ⟨Nat.le_refl _, Nat.le_refl _⟩)⟩
theorem RefRow.cle {t : TypeId} {B C : Nat} {w W : World} {v : Value} {ns : List NodeD} (h : RefRow t B C w W v ns) : C ≤ W.heap.size := by
  obtain ⟨L, _, hO, _⟩ := h
  exact hO.2.2.1
theorem RefRow.later {t : TypeId} {B C : Nat} {w W W' : World} {v : Value} {ns : List NodeD} (h : RefRow t B C w W v ns) (hl : Later W W') : RefRow t B C w W' v ns :=
  h.fr (S := fun b => W.heap.size ≤ b) (Fr.of_below hl (fun b hb hS => by omega)) (fun b h1 h2 h3 => by have := h.cle; omega)
structure XB (n : NetD) (c : CkN) (g : Nat) (F : RfF) (V : RfV) (x : RfS) (w0 w : World) : Prop where
  later : Later w0 w
  hg : w0.heap.size ≤ g
  box : Blk w g 49 (F.cells V n c x)
  fix : F.Fix n c w
  stay : ∃ wb, Fr (fun b => b = g) wb w ∧ ∀ W, Fr (fun b => b = g) wb W → F.Fix n c W
  at_ : V.At x w
  off : V.Off x g
theorem XB.to_later {n : NetD} {c : CkN} {g : Nat} {F : RfF} {V : RfV} {x : RfS} {w0 w w' : World} (k : XB n c g F V x w0 w) (hl : Later w w') : XB n c g F V x w0 w' := by
  obtain ⟨wb, h1, h2⟩ := k.stay
  exact ⟨k.later.trans hl, k.hg, hl.blk k.box, k.fix.later hl, ⟨wb, h1.then_below hl h1.size, h2⟩, k.at_.later hl, k.off⟩
/-- Behind Do and the store of what it gives. -/
theorem XB.put {n : NetD} {c : CkN} {g : Nat} {F : RfF} {V V' : RfV} {x x' : RfS} {w0 w : World} (k : XB n c g F V x w0 w) (hA : V'.At x' w) (ho : V'.Off x' g) :
    XB n c g F V' x' w0 (((((((((((((w.setCell ⟨g, 0, none⟩ (.slice F.A n.inn.length F.c)).setCell ⟨g, 1, none⟩ (.slice F.N n.nodes.length F.d)).setCell ⟨g, 2, none⟩ (.slice F.Wd c.words.length F.cw)).setCell ⟨g, 3, none⟩ (.slice F.Or c.order.length F.co)).setCell ⟨g, 4, none⟩ (.int .i64 c.loss)).setCell ⟨g, 5, none⟩ (.int .i64 c.cap)).setCell ⟨g, 6, none⟩ (.slice V'.Th x'.there.length V'.ct)).setCell ⟨g, 7, none⟩ (.slice V'.Sa x'.saved.length V'.cs)).setCell ⟨g, 8, none⟩ (.slice V'.Gr x'.grads.length V'.cg)).setCell ⟨g, 9, none⟩ (.int .i64 x'.em)).setCell ⟨g, 10, none⟩ (.int .i64 x'.sd)).setCell ⟨g, 11, none⟩ (.int .i64 x'.done)).setCell ⟨g, 12, none⟩ (.int .i64 x'.peak)) := by
  obtain ⟨wb, h1, h2⟩ := k.stay
  have hf := fr13 h1 (.slice F.A n.inn.length F.c) (.slice F.N n.nodes.length F.d) (.slice F.Wd c.words.length F.cw) (.slice F.Or c.order.length F.co) (.int .i64 c.loss) (.int .i64 c.cap) (.slice V'.Th x'.there.length V'.ct) (.slice V'.Sa x'.saved.length V'.cs) (.slice V'.Gr x'.grads.length V'.cg) (.int .i64 x'.em) (.int .i64 x'.sd) (.int .i64 x'.done) (.int .i64 x'.peak)
  refine ⟨later13 k.later k.hg _ _ _ _ _ _ _ _ _ _ _ _ _, k.hg, ?_, h2 _ hf, ⟨wb, hf, h2⟩, ⟨?_, ?_, ?_⟩, ho⟩
  · exact Blk.set13 k.box rfl _ _ _ _ _ _ _ _ _ _ _ _ _
  · exact RfRow.set13 (RfRow.of hA.there ho.1) _ _ _ _ _ _ _ _ _ _ _ _ _
  · exact RfRow.set13 (RfRow.of hA.saved ho.2.1) _ _ _ _ _ _ _ _ _ _ _ _ _
  · exact RfRow.set13 (RfRow.of hA.grads ho.2.2) _ _ _ _ _ _ _ _ _ _ _ _ _
/-- Behind New and the store. -/
theorem XB.start {t : TypeId} {n : NetD} {cap : Int} {g B C c : Nat} {A N N' Wd Or : Option Addr} {cw co d' : Nat} {V : RfV} {W wb wf : World} (hW : Later W wb) (hg : W.heap.size ≤ g) (hrow : RefRow t B C W wb (.slice N' n.nodes.length d') n.nodes) (hBg : g < B ∨ C ≤ g) (hR : NetR W A N n)
    (rW : RfRow g g wb Wd (Nt.words n)) (rO : RfRow g g wb Or (Nt.sorted n.nodes)) (hA : V.At Rf.start wb) (ho : V.Off Rf.start g) (hf : Fr (fun b => b = g) wb wf) (hbox : Blk wf g 49 (RfF.cells ⟨A, N', Wd, Or, c, d', cw, co⟩ V n (Ck.base n cap) Rf.start)) :
    XB n (Ck.base n cap) g ⟨A, N', Wd, Or, c, d', cw, co⟩ V Rf.start W wf := by
  have hL : ∀ W', Fr (fun b => b = g) wb W' → Later W W' := fun W' h => Below.trans hW (h.below (B := W.heap.size) (fun b q => by subst q; exact hg) hW.size)
  have hst : ∀ W', Fr (fun b => b = g) wb W' → RfF.Fix ⟨A, N', Wd, Or, c, d', cw, co⟩ n (Ck.base n cap) W' := fun W' h =>
    ⟨(hrow.fr h (fun b h1 h2 h3 => by subst h3; omega)).net (hL W' h) hR, rW.fr h, rO.fr h⟩
  exact ⟨hL wf hf, hg, hbox, hst wf hf, ⟨wb, hf, hst⟩, ⟨(RfRow.of hA.there ho.1).fr hf, (RfRow.of hA.saved ho.2.1).fr hf, (RfRow.of hA.grads ho.2.2).fr hf⟩, ho⟩
/-- The box's cells told anew. -/
theorem start_box {n : NetD} {cap : Int} {g c d' cw co : Nat} {A N' Wd Or : Option Addr} {V : RfV} {w : World} (hk : Blk w g 49 zeros13) :
    Blk (((((((((((((w.setCell ⟨g, 0, none⟩ (.slice A n.inn.length c)).setCell ⟨g, 1, none⟩ (.slice N' n.nodes.length d')).setCell ⟨g, 2, none⟩ (.slice Wd (Ck.base n cap).words.length cw)).setCell ⟨g, 3, none⟩ (.slice Or (Ck.base n cap).order.length co)).setCell ⟨g, 4, none⟩ (.int .i64 (Ck.base n cap).loss)).setCell ⟨g, 5, none⟩ (.int .i64 (Ck.base n cap).cap)).setCell ⟨g, 6, none⟩ (.slice V.Th Rf.start.there.length V.ct)).setCell ⟨g, 7, none⟩ (.slice V.Sa Rf.start.saved.length V.cs)).setCell ⟨g, 8, none⟩ (.slice V.Gr Rf.start.grads.length V.cg)).setCell ⟨g, 9, none⟩ (.int .i64 Rf.start.em)).setCell ⟨g, 10, none⟩ (.int .i64 Rf.start.sd)).setCell ⟨g, 11, none⟩ (.int .i64 Rf.start.done)).setCell ⟨g, 12, none⟩ (.int .i64 Rf.start.peak)) g 49 (RfF.cells ⟨A, N', Wd, Or, c, d', cw, co⟩ V n (Ck.base n cap) Rf.start) :=
  Blk.set13 hk rfl _ _ _ _ _ _ _ _ _ _ _ _ _
end Go.Proofs.YtmmgdgfpemkdnaaGreat
