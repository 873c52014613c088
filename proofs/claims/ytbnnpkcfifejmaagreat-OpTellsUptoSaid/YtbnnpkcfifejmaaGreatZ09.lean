/- Lemmas for the statements of this seat: contracts of functions and the plain laws. -/
import Derived.Deep.RegionHeld3
import Derived.Lib.SliceRun
import Derived.Shelf.Spec.SlicesInsert
import Derived.Shelf.Spec.SlicesInsertGrow
import Derived.Test.YtbnnpkcfifejmaaGreatProg
import Derived.Test.YtbnnpkcfifejmaaGreatZ08
set_option linter.unusedVariables false
namespace Go.Proofs.YtbnnpkcfifejmaaGreat
open Go.RowKit
theorem tenZ_info : (Tryz.prog.info? 30).map (fun i => (i.zero, i.size, i.bytes)) = some (some (.agg #[.slice none 0 0, .slice none 0 0]), 2, 48) := by kernel_rfl
def TnsO (B : Nat) (w : World) (A : Option Addr) (ts : List Ten) : Prop :=
 (∀ a, A = some a → ∃ b, a = ⟨b, 0, none⟩ ∧ B ≤ b ∧ b < w.heap.size ∧ ∀ k, w.frozen? ⟨b, k, none⟩ = false) ∧
 ∀ j (hj : j < ts.length), ∃ b S c C d, A = some ⟨b, 0, none⟩ ∧ w.cell? ⟨b, j * 2, none⟩ = some (.slice S ts[j].s.length c) ∧ w.cell? ⟨b, j * 2 + 1, none⟩ = some (.slice C ts[j].c.length d) ∧ TenO B w (.agg #[.slice S ts[j].s.length c, .slice C ts[j].c.length d]) ts[j]
def GoL (r : List Ten × Int) (w : World) (e : Ending) (w' : World) : Prop :=
 (r.2 ≠ 0 ∧ e = .returned (.tuple #[.slice none 0 0, .int .i64 r.2]) ∨ r.2 = 0 ∧ ∃ A, e = .returned (.tuple #[.slice A r.1.length r.1.length, .int .i64 0]) ∧ TnsO w.heap.size w' A r.1) ∧ Below w.heap.size w w'
theorem GoL.fail {n : Int} {r : List Ten × Int} {w w' : World} (hr : r = ([], n)) (hn : n ≠ 0) (hb : Below w.heap.size w w') : GoL r w (.returned (.tuple #[.slice none 0 0, .int .i64 n])) w' := by
 subst hr; exact ⟨.inl ⟨hn, rfl⟩, hb⟩
theorem TnsO.tns {B : Nat} {w : World} {A : Option Addr} {ts : List Ten} (h : TnsO B w A ts) : Tns w A ts := fun j hj => by
 obtain ⟨b, S, c, C, d, e, c0, c1, hO⟩ := h.2 j hj
 obtain ⟨S', c', C', d', e', hT, -, -⟩ := hO
 simp at e'
 obtain ⟨⟨rfl, rfl⟩, rfl, rfl⟩ := e'
 obtain ⟨b', e3, -, hb, -⟩ := h.1 _ e
 injection e3 with e3 _ _
 subst e3
 exact ⟨b, 0, S, c, C, d, e, hb, by rw [Nat.zero_add]; exact c0, by rw [Nat.zero_add]; exact c1, hT⟩
theorem GoL.ok {ts : List Ten} {r : List Ten × Int} {A : Option Addr} {w w' : World} (hr : r = (ts, 0)) (h : TnsO w.heap.size w' A ts) (hb : Below w.heap.size w w') : GoL r w (.returned (.tuple #[.slice A ts.length ts.length, .int .i64 0])) w' := by
 subst hr; exact ⟨.inr ⟨rfl, A, rfl, h⟩, hb⟩
theorem teno_of {B : Nat} {w : World} {g h n : Nat} {s c : List Int} (hg : Blk w g 3 (s.map (Value.int .i64)).toArray) (hh : Blk w h 22 (c.map (Value.int .i64)).toArray) (b1 : B ≤ g) (b2 : B ≤ h) (l1 : s.length ≤ 1048576) (l2 : c.length ≤ 1048576) (hin : ∀ z ∈ c, Fx.In z) (hn : c.length = n) :
  TenO B w (.agg #[.slice (some ⟨g, 0, none⟩) s.length s.length, .slice (some ⟨h, 0, none⟩) c.length n]) ⟨s, c⟩ := by
 subst hn
 refine ⟨some ⟨g, 0, none⟩, s.length, some ⟨h, 0, none⟩, c.length, rfl, ⟨⟨hg.intsL, hh.intsL⟩, Nat.le_refl _, by omega, Nat.le_refl _, by omega, l1, l2, hin⟩, fun a e => ?_, fun a e => ?_⟩
 ·injection e with e; subst e; exact b1
 ·injection e with e; subst e; exact ⟨b2, hh.lt, fun j => hh.frozen j⟩
theorem own_blk {w : World} {B e size n g : Nat} {xs : List Value} (h : w.ownsRow B e size (.slice (some ⟨g, 0, none⟩) n n) n xs) : Blk w g e xs.toArray := by
 rcases h.2 with ⟨h1, _⟩ | ⟨g', cap, cur, e1, _, hh, _, _, hs, ht⟩
 ·cases h1
 ·injection e1 with e1 _ e2
  injection e1 with e1
  injection e1 with e1 _ _
  subst e1 e2
  have : cur.toList = xs := by rw [← ht, List.take_of_length_le (by simp; omega)]
  rw [← this]
  exact hh
namespace Ly
theorem pointBack_err {kind k : Int} {g : Ten} {x : List Ten} (h : ptAgree kind x ≠ 0) : pointBack kind k g x = ([], ptAgree kind x) := by unfold pointBack; rw [if_neg h]
theorem pointBack_bad {kind k : Int} {g : Ten} {x : List Ten} (h : ptAgree kind x = 0) (hg : (Tn.right g && (g.s == (got x 0).s)) = false) : pointBack kind k g x = ([], 20) := by
 unfold pointBack
 rw [if_pos h, if_neg]
 intro hh
 rw [Bool.and_eq_true, decide_eq_true_eq] at hh
 rw [hh.1, hh.2] at hg
 simp at hg
theorem pointBack_ok1 {kind k : Int} {g : Ten} {x : List Ten} (h : ptAgree kind x = 0) (hr : Tn.right g = true) (hs : g.s = (got x 0).s) (hn : x.length = 1) :
  pointBack kind k g x = ([⟨(got x 0).s, tab (got x 0).c.length fun i => (slopes kind k x g i).1⟩], 0) := by
 unfold pointBack
 rw [if_pos h, if_pos (by rw [hr, hs]; simp), if_pos (by omega)]
theorem pointBack_ok2 {kind k : Int} {g : Ten} {x : List Ten} (h : ptAgree kind x = 0) (hr : Tn.right g = true) (hs : g.s = (got x 0).s) (hn : x.length = 2) :
  pointBack kind k g x = ([⟨(got x 0).s, tab (got x 0).c.length fun i => (slopes kind k x g i).1⟩, ⟨(got x 1).s, tab (got x 0).c.length fun i => (slopes kind k x g i).2⟩], 0) := by
 unfold pointBack
 rw [if_pos h, if_pos (by rw [hr, hs]; simp), if_neg (by omega)]
end Ly
set_option maxHeartbeats 8000000 in
set_option maxRecDepth 20000 in
theorem point_back1 (kind k0 : Int) (A GS GC : Option Addr) (f gc gd : Nat) (g : Ten) (x : List Ten) (w : World) (hn : x.length = 1) (hT : Tns w A x) (hG : TenIn w GS GC gc gd g) (hk0 : Fx.In k0) :
  Calls Tryz.prog 18 #[.int .i64 kind, .int .i64 k0, .agg #[.slice GS g.s.length gc, .slice GC g.c.length gd], .slice A x.length f] w (GoL (Ly.pointBack kind k0 g x) w) := by
 have h01 : Later w (w.alloc (.cells #[.slice GS g.s.length gc, .slice GC g.c.length gd] 30)) := (Later.refl w).alloc _
 have hk := Blk.new w 30 #[.slice GS g.s.length gc, .slice GC g.c.length gd]
 have hn1 : 1 ≤ x.length := by omega
 have hn2 : x.length ≤ 1 := by omega
 have hn0 : 0 < x.length := by omega
 have HT := Lib.hid hT
 have H01 := Lib.hid h01
 have Hk := Lib.hid hk
 have Hk0 := Lib.hid hk0
 have HG := Lib.hid hG
 have Hn := Lib.hid hn
 clear hT h01 hk hk0 hG hn
 go_enter Tryz.func18, Tryz.ntmps18
 go_wp2_with fail
 generalize w.alloc (.cells #[.slice GS g.s.length gc, .slice GC g.c.length gd] 30) = w1 at *
 refine (point_agree kind A f x w1 (by omega) (HT.out.later H01.out)).mono ?_
 rintro e w2 ⟨rfl, hb2⟩
 have h02 := H01.out.call hb2
 have hk2 := (show Later w1 w2 from hb2).blk Hk.out
 clear hb2 Hk H01
 by_cases hg : Ly.ptAgree kind x = 0
 case neg =>
  have HE := Lib.hid (Ly.pointBack_err (k := k0) (g := g) hg)
  have d1 : (Ly.ptAgree kind x == 0) = false := by simpa using hg
  have d2 : (Ly.ptAgree kind x != 0) = true := by simpa using hg
  have Hg := Lib.hid hg
  clear hg
  generalize Ly.ptAgree kind x = ge at *
  have H02 := Lib.hid h02
  have Hk2 := Lib.hid hk2
  clear h02 hk2
  go_wp2_with fail
  refine bodyPost_ret (v := .tuple #[.slice none 0 0, .int .i64 ge]) (by simp [results, Tryz.results18, go_sem]) rfl ?_
  exact GoL.fail HE.out Hg.out H02.out
 obtain ⟨k1, k7, -, l1, l2, hall⟩ := Ly.agree_yes hg
 rw [hg]
 obtain ⟨hr0, -⟩ := Ly.ok_right (hall _ (by rw [got_at (show 0 < x.length by omega)]; exact List.getElem_mem _) : Ly.okTo x (Ly.got x 0) = true)
 have HGa := Lib.hid hg
 clear hg hall
 obtain ⟨b, off, S, sc, C, cd, rfl, hb0, z0, z1, ht⟩ := (HT.out.later h02).first (by omega)
 obtain ⟨r1, r2⟩ := Ly.right_ok hr0
 have u0 := hk2.cell 0
 have u1 := hk2.cell 1
 simp at u0 u1
 have lg1 := HG.out.l1
 have lg2 := HG.out.l2
 have hrg := fun (V : World) (h : Later w2 V) => tensor_right GS GC gc gd g V (by omega) (by omega) (HG.out.later (h02.trans h)).r.1
 have heq := fun (V : World) (h : Later w2 V) => shape_equal GS S gc sc g.s (Ly.got x 0).s V (by omega) (by omega) (HG.out.later (h02.trans h)).r.1 (ht.later h).r.1
 have hE : (Tn.right g && (g.s == (Ly.got x 0).s)) = false → Ly.pointBack kind k0 g x = ([], 20) := Ly.pointBack_bad (HGa.out)
 have H02 := Lib.hid h02
 have Hk2 := Lib.hid hk2
 have Ht := Lib.hid ht
 have Hrg := Lib.hid hrg
 have Heq := Lib.hid heq
 have HE := Lib.hid hE
 clear h02 hk2 ht hrg heq hE
 cases hgr : Tn.right g
 ·have HE := Lib.hid (HE.out (by rw [hgr]; rfl))
  rw [hgr] at Hrg
  clear HE
  have HE := Lib.hid (Ly.pointBack_bad (k := k0) HGa.out (by rw [hgr]; rfl : (Tn.right g && (g.s == (Ly.got x 0).s)) = false))
  go_wp2_with fail
  have KF := Lib.hid (show ∀ Xw, Later w2 Xw → Xw.cell? ⟨w.heap.size, 0, none⟩ = some (.slice GS g.s.length gc) ∧ Xw.cell? ⟨w.heap.size, 1, none⟩ = some (.slice GC g.c.length gd) from fun Xw h => ⟨h.cell u0, h.cell u1⟩)
  refine wp_region_noPanic ?_
  refine wp_region_held_drew (S := fun Xw => Xw.cell? ⟨w.heap.size, 0, none⟩ = some (.slice GS g.s.length gc) ∧ Xw.cell? ⟨w.heap.size, 1, none⟩ = some (.slice GC g.c.length gd)) (by kernel_rfl) (KF.out _ Later.au) (fun hHeld => ?_)
  refine tk 0 ?_
  refine rd 1 fun K hK => ?_
  simp only [ga, gs, gz]
  go_simp
  go_at_call 51; (with_reducible refine (Hrg.out _ (Later.au : Later w2 _)).mono ?_); rintro e wa ⟨rfl, hba⟩
  try go_wp2_with fail
  refine hK.out _ _ (KF.out _ Later.au) (fun hHeld => ?_)
  clear hK K
  try simp only [ga, gs, gz, Act.put, sa, sz, ss]
  refine tk 2 ?_
  refine tk 3 ?_
  refine tn 4 ?_
  refine tn 5 ?_
  refine tn 6 ?_
  refine tn 7 ?_
  refine tn 8 ?_
  refine tn 9 ?_
  refine rd 10 fun K hK => ?_
  simp only [ga, gs, gz]
  go_simp
  refine hK.out _ _ (KF.out _ Later.au) (fun hHeld => ?_)
  clear hK K
  try simp only [ga, gs, gz, Act.put, sa, sz, ss]
  refine tn 11 ?_
  refine tk 12 ?_
  clear KF
  refine wpAnyH_done (by kernel_rfl) ?_ _
  refine NoPanic.normal ?_
  have hla : Later w2 wa := (Later.au : Later w2 wa)
  have h0a := H02.out.trans hla
  clear hba hHeld u0 u1 z0 z1
  have Hla := Lib.hid hla
  have H0a := Lib.hid h0a
  clear hla h0a
  go_wp2_with fail
  refine bodyPost_ret (v := .tuple #[.slice none 0 0, .int .i64 20]) (by simp [results, Tryz.results18, go_sem]) rfl ?_
  exact GoL.fail HE.out (by decide) H0a.out
 rw [hgr] at Hrg
 cases hge : (g.s == (Ly.got x 0).s)
 ·rw [hge] at Heq
  clear HE
  have HE := Lib.hid (Ly.pointBack_bad (k := k0) HGa.out (by rw [hge, Bool.and_false] : (Tn.right g && (g.s == (Ly.got x 0).s)) = false))
  go_wp2_with fail
  have KF := Lib.hid (show ∀ Xw, Later w2 Xw → Xw.cell? ⟨w.heap.size, 0, none⟩ = some (.slice GS g.s.length gc) ∧ Xw.cell? ⟨w.heap.size, 1, none⟩ = some (.slice GC g.c.length gd) ∧ Xw.cell? ⟨b, off, none⟩ = some (.slice S (Ly.got x 0).s.length sc) from fun Xw h => ⟨h.cell u0, h.cell u1, h.cell z0⟩)
  refine wp_region_noPanic ?_
  refine wp_region_held_drew (S := fun Xw => Xw.cell? ⟨w.heap.size, 0, none⟩ = some (.slice GS g.s.length gc) ∧ Xw.cell? ⟨w.heap.size, 1, none⟩ = some (.slice GC g.c.length gd) ∧ Xw.cell? ⟨b, off, none⟩ = some (.slice S (Ly.got x 0).s.length sc)) (by kernel_rfl) (KF.out _ Later.au) (fun hHeld => ?_)
  refine tk 0 ?_
  refine rd 1 fun K hK => ?_
  simp only [ga, gs, gz]
  go_simp
  go_at_call 51; (with_reducible refine (Hrg.out _ (Later.au : Later w2 _)).mono ?_); rintro e wa ⟨rfl, hba⟩
  try go_wp2_with fail
  refine hK.out _ _ (KF.out _ Later.au) (fun hHeld => ?_)
  clear hK K
  try simp only [ga, gs, gz, Act.put, sa, sz, ss]
  refine tk 2 ?_
  refine tk 3 ?_
  refine tk 4 ?_
  refine tk 5 ?_
  refine tk 6 ?_
  refine tk 7 ?_
  refine tk 8 ?_
  refine tk 9 ?_
  refine rd 10 fun K hK => ?_
  simp only [ga, gs, gz]
  go_simp
  go_at_call 43; (with_reducible refine (Heq.out _ (Later.au : Later w2 _)).mono ?_); rintro e wb ⟨rfl, nb, rfl⟩
  try go_wp2_with fail
  refine hK.out _ _ (KF.out _ Later.au) (fun hHeld => ?_)
  clear hK K
  try simp only [ga, gs, gz, Act.put, sa, sz, ss]
  refine tk 11 ?_
  refine tk 12 ?_
  clear KF
  refine wpAnyH_done (by kernel_rfl) ?_ _
  refine NoPanic.normal ?_
  have hla : Later w2 (wa.drewN nb) := (Later.au : Later w2 (wa.drewN nb))
  have h0a := H02.out.trans hla
  clear hba hHeld u0 u1 z0 z1
  have Hla := Lib.hid hla
  have H0a := Lib.hid h0a
  clear hla h0a
  go_wp2_with fail
  refine bodyPost_ret (v := .tuple #[.slice none 0 0, .int .i64 20]) (by simp [results, Tryz.results18, go_sem]) rfl ?_
  exact GoL.fail HE.out (by decide) H0a.out
 rw [hge] at Heq
 have hgs : g.s = (Ly.got x 0).s := by simpa using hge
 have hNg := Ly.same_len hgr hr0 hgs
 clear HE
 have HE := Lib.hid (Ly.pointBack_ok1 (k := k0) HGa.out hgr hgs Hn.out)
 have Hgs := Lib.hid hgs
 have HNg := Lib.hid hNg
 clear hgs hNg
 clear hge
 go_wp2_with fail
 have KF := Lib.hid (show ∀ Xw, Later w2 Xw → Xw.cell? ⟨w.heap.size, 0, none⟩ = some (.slice GS g.s.length gc) ∧ Xw.cell? ⟨w.heap.size, 1, none⟩ = some (.slice GC g.c.length gd) ∧ Xw.cell? ⟨b, off, none⟩ = some (.slice S (Ly.got x 0).s.length sc) from fun Xw h => ⟨h.cell u0, h.cell u1, h.cell z0⟩)
 refine wp_region_noPanic ?_
 refine wp_region_held_drew (S := fun Xw => Xw.cell? ⟨w.heap.size, 0, none⟩ = some (.slice GS g.s.length gc) ∧ Xw.cell? ⟨w.heap.size, 1, none⟩ = some (.slice GC g.c.length gd) ∧ Xw.cell? ⟨b, off, none⟩ = some (.slice S (Ly.got x 0).s.length sc)) (by kernel_rfl) (KF.out _ Later.au) (fun hHeld => ?_)
 refine tk 0 ?_
 refine rd 1 fun K hK => ?_
 simp only [ga, gs, gz]
 go_simp
 go_at_call 51; (with_reducible refine (Hrg.out _ (Later.au : Later w2 _)).mono ?_); rintro e wa ⟨rfl, hba⟩
 try go_wp2_with fail
 refine hK.out _ _ (KF.out _ Later.au) (fun hHeld => ?_)
 clear hK K
 try simp only [ga, gs, gz, Act.put, sa, sz, ss]
 refine tk 2 ?_
 refine tk 3 ?_
 refine tk 4 ?_
 refine tk 5 ?_
 refine tk 6 ?_
 refine tk 7 ?_
 refine tk 8 ?_
 refine tk 9 ?_
 refine rd 10 fun K hK => ?_
 simp only [ga, gs, gz]
 go_simp
 go_at_call 43; (with_reducible refine (Heq.out _ (Later.au : Later w2 _)).mono ?_); rintro e wb ⟨rfl, nb, rfl⟩
 try go_wp2_with fail
 refine hK.out _ _ (KF.out _ Later.au) (fun hHeld => ?_)
 clear hK K
 try simp only [ga, gs, gz, Act.put, sa, sz, ss]
 refine tk 11 ?_
 refine tk 12 ?_
 clear KF
 refine wpAnyH_done (by kernel_rfl) ?_ _
 refine NoPanic.normal ?_
 have hla : Later w2 (wa.drewN nb) := (Later.au : Later w2 (wa.drewN nb))
 have h0a := H02.out.trans hla
 have hka := hla.blk Hk2.out
 have hta := Ht.out.later hla
 have z0a := hla.cell z0
 have z1a := hla.cell z1
 skip
 skip
 skip
 clear hba hHeld u0 u1 z0 z1 Ht Hk2 H02 Hrg Heq
 generalize wa.drewN nb = w3 at *
 rw [Hn.out]
 have hsl : ∀ i, Ly.slopes kind k0 x g i = Ly.slope kind k0 (Ly.at_ (Ly.got x 0).c i) (Ly.second x i) (Ly.at_ g.c i) := fun _ => rfl
 have hnum := hta.num
 have hsecin : ∀ i, Fx.In (Ly.second x i) := fun i => by
  unfold Ly.second
  split
  ·exact Fx.in_zero
  ·exact Ly.at_in (Ly.got_in HT.out.in_ 1) i
 have hsec : 2 ≤ x.length → (Ly.got x 1).c.length = (Ly.got x 0).c.length := fun h => by omega
 have hRl0 : (Ly.tab (Ly.got x 0).c.length fun i => (Ly.slopes kind k0 x g i).1).length = (Ly.got x 0).c.length := by rw [Ly.tab_len]
 have hRg0 : ∀ i (hi : i < (Ly.tab (Ly.got x 0).c.length fun i => (Ly.slopes kind k0 x g i).1).length), (Ly.tab (Ly.got x 0).c.length fun i => (Ly.slopes kind k0 x g i).1)[i] = (Ly.slopes kind k0 x g i).1 := fun i hi => Ly.tab_get hi
 have hRin0 : ∀ z ∈ (Ly.tab (Ly.got x 0).c.length fun i => (Ly.slopes kind k0 x g i).1), Fx.In z := Ly.tab_in fun i _ => (Ly.slope_in (Ly.at_in HG.out.num i)).1
 generalize (Ly.tab (Ly.got x 0).c.length fun i => (Ly.slopes kind k0 x g i).1) = R0 at *
 have Hsec1 := Lib.hid (fun (k : Nat) (hk : k < (Ly.got x 0).c.length) (h2 : 2 ≤ x.length) => (show k < (Ly.got x 1).c.length by omega))
 clear hsec
 generalize htq0 : Ly.got x 0 = t0 at *
 have HTQ0 := Lib.hid htq0
 clear htq0
 clear hHeld
 have Hsl := Lib.hid hsl
 have Hnum := Lib.hid hnum
 have Hsecin := Lib.hid hsecin
 have H0a := Lib.hid h0a
 have Hka := Lib.hid hka
 have Hla := Lib.hid hla
 have HRl0 := Lib.hid hRl0
 have HRg0 := Lib.hid hRg0
 have HRin0 := Lib.hid hRin0
 have Hta := Lib.hid hta
 have Hz0a := Lib.hid z0a
 have Hz1a := Lib.hid z1a
 clear hsl hnum hsecin h0a hka hla hRl0 hRg0 hRin0 hta z0a z1a
 obtain ⟨i0, hi, hy0, hy1, hy2⟩ := info_parts tenZ_info
 go_wp2_with (at_make; refine wpList_make_full _ rfl _ _ 27 rfl w.heap.size 30 i0 (.agg #[.slice none 0 0, .slice none 0 0]) 2 Tryz.underlying27 hi hy0 hy1 _ _ _ _ 1 rfl rfl (by first | rfl | simp) (by first | rfl | simp) ?b2 ?b3 H0a.out.size ?_)
 case b2 => rw [hy2]; omega
 case b3 => unfold maxLen; omega
 intro v0 hown hgrow
 clear hi hy0 hy1 hy2
 have hrow0 : Blk v0 w3.heap.size 30 #[.slice none 0 0, .slice none 0 0] := by have h := own_blk hown; simpa [madeCells, List.range_succ] using h
 have hL0 : Later w3 v0 := (Below.refl _ w3).grown hgrow (Nat.le_refl _) (by simp)
 have hws := H0a.out.size
 have hwk := Hka.out.lt
 clear hown hgrow
 have Hrow0 := Lib.hid hrow0
 have HL0 := Lib.hid hL0
 clear hrow0 hL0
 go_wp2_with fail
 refine wp_loop_rounds 2 ?_
 rw [rounds_succ]
 have y0 := HL0.out.cell Hz0a.out
 have y1 := HL0.out.cell Hz1a.out
 go_wp2_with fail
 have hLb := HL0.out.alloc (.cells #[.slice S t0.s.length sc, .slice C t0.c.length cd] 30)
 have hrb := (Hrow0.out).alloc (.cells #[.slice S t0.s.length sc, .slice C t0.c.length cd] 30)
 clear y0 y1
 generalize v0.alloc (.cells #[.slice S t0.s.length sc, .slice C t0.c.length cd] 30) = vb at *
 refine (tensor_copy S C sc cd t0 vb (by omega) (by omega) (Hta.out.later hLb).r).mono ?_
 rintro e vc ⟨v, rfl, ⟨g0, h0, rfl, hg0, hh0, hG0, hH0⟩, hbc⟩
 have hbc' : Later vb vc := hbc
 have hLc := hLb.trans hbc'
 have hrc := hbc'.blk hrb
 have hrlt := hrb.lt
 have hlb := hLb.size
 have hgl0 := hG0.lt
 have hhl0 := hH0.lt
 have x0 := hrc.cell 0
 have x1 := hrc.cell 1
 have fr0 := hrc.frozen 0
 have fr1 := hrc.frozen 1
 simp at x0 x1
 have hgn0 : g0 ≠ h0 := fun e => by
  subst e
  have := hG0.symm.trans hH0
  simp at this
 have hgb0 : w3.heap.size ≤ g0 := by omega
 have hhb0 : w3.heap.size ≤ h0 := by omega
 have hgr0 : g0 ≠ w3.heap.size := by omega
 have hhr0 : h0 ≠ w3.heap.size := by omega
 have hrow1 : Blk ((vc.setCell ⟨w3.heap.size, 0, none⟩ (.slice (some ⟨g0, 0, none⟩) t0.s.length t0.s.length)).setCell ⟨w3.heap.size, 1, none⟩ (.slice (some ⟨h0, 0, none⟩) t0.c.length t0.c.length)) w3.heap.size 30 #[.slice (some ⟨g0, 0, none⟩) t0.s.length t0.s.length, .slice (some ⟨h0, 0, none⟩) t0.c.length t0.c.length] := by
  have := (hrc.set_ 0 (.slice (some ⟨g0, 0, none⟩) t0.s.length t0.s.length)).set_ 1 (.slice (some ⟨h0, 0, none⟩) t0.c.length t0.c.length)
  simpa using this
 have hL1 : Later w3 ((vc.setCell ⟨w3.heap.size, 0, none⟩ (.slice (some ⟨g0, 0, none⟩) t0.s.length t0.s.length)).setCell ⟨w3.heap.size, 1, none⟩ (.slice (some ⟨h0, 0, none⟩) t0.c.length t0.c.length)) := (hLc.set (p := ⟨w3.heap.size, 0, none⟩) (Nat.le_refl _) _).set (p := ⟨w3.heap.size, 1, none⟩) (Nat.le_refl _) _
 have hG10 := (hG0.far (p := ⟨w3.heap.size, 0, none⟩) hgr0 (.slice (some ⟨g0, 0, none⟩) t0.s.length t0.s.length)).far (p := ⟨w3.heap.size, 1, none⟩) hgr0 (.slice (some ⟨h0, 0, none⟩) t0.c.length t0.c.length)
 have hH10 := (hH0.far (p := ⟨w3.heap.size, 0, none⟩) hhr0 (.slice (some ⟨g0, 0, none⟩) t0.s.length t0.s.length)).far (p := ⟨w3.heap.size, 1, none⟩) hhr0 (.slice (some ⟨h0, 0, none⟩) t0.c.length t0.c.length)
 have Hrow1 := Lib.hid hrow1
 have HL1 := Lib.hid hL1
 have HG10 := Lib.hid hG10
 have HH10 := Lib.hid hH10
 clear hrow1 hL1 hG10 hH10
 clear hbc hbc' hLc hrc hG0 hH0 hLb hrb
 go_wp2_with fail
 generalize (vc.setCell ⟨w3.heap.size, 0, none⟩ (.slice (some ⟨g0, 0, none⟩) t0.s.length t0.s.length)).setCell ⟨w3.heap.size, 1, none⟩ (.slice (some ⟨h0, 0, none⟩) t0.c.length t0.c.length) = v1 at *
 clear x0 x1 fr0 fr1
 rw [rounds_succ]
 have y0 := HL1.out.cell Hz0a.out
 have y1 := HL1.out.cell Hz1a.out
 go_wp2_with fail
 clear y0 y1
 have hI0 : Blk v1 h0 22 ((R0.take 0 ++ t0.c.drop 0).map (Value.int .i64)).toArray := by simpa using HH10.out
 have HI0 := Lib.hid hI0
 clear hI0
 go_loopw [58] (fun i wx => ∃ k : Nat, k ≤ t0.c.length ∧ i = .int .i64 (k : Int) ∧ Blk wx h0 22 ((R0.take k ++ t0.c.drop k).map (Value.int .i64)).toArray ∧ Blk wx g0 3 (t0.s.map (Value.int .i64)).toArray ∧ Blk wx w3.heap.size 30 #[.slice (some ⟨g0, 0, none⟩) t0.s.length t0.s.length, .slice (some ⟨h0, 0, none⟩) t0.c.length t0.c.length] ∧ Later w3 wx) (fun i _ => t0.c.length - (intOf i).toNat)
 case atStart => exact ⟨0, Nat.zero_le _, rfl, HI0.out, HG10.out, Hrow1.out, HL1.out⟩
 case round =>
  obtain ⟨k, hk, rfl, hm0, hgx0, hrx, hlx⟩ := hrel
  clear HI0 HG10 HH10 Hrow1
  by_cases hlt : k < t0.c.length
  ·obtain ⟨bc, oc, rfl, -, hcx⟩ := (Hta.out.later hlx).cell hlt
   have hltg : k < g.c.length := by rw [HNg.out]; exact hlt
   obtain ⟨bg, og, rfl, -, hcg⟩ := (HG.out.later (H0a.out.trans hlx)).cell hltg
   have u1 : wr.cell? ⟨w.heap.size, 1, none⟩ = some (.slice (some ⟨bg, og, none⟩) g.c.length gd) := by rw [(hlx.blk Hka.out).cell]; rfl
   have hxin := Ly.at_in Hnum.out k
   have hsin := Hsecin.out k
   have hgin := Ly.at_in HG.out.num k
   have hc1 := fun (V : World) (hV : Later w V) => point_second (some ⟨b, off, none⟩) f x k V (by omega) (HT.out.later hV) (Hsec1.out k hlt)
   have hc2 := fun (V : World) => point_slope kind k0 (Ly.at_ t0.c k) (Ly.second x k) (Ly.at_ g.c k) V k1 k7 Hk0.out hxin hsin hgin
   rw [Hn.out] at hc1
   rw [← Hsl.out k] at hc2
   have rr1 := r1
   have rr2 := r2
   have hltR0 : k < R0.length := by rw [HRl0.out]; exact hlt
   have hst0 := Ly.mid_step R0 t0.c hltR0 HRl0.out
   have hlen0 := Ly.mid_len R0 t0.c k (by omega) HRl0.out
   have hRk0 := HRg0.out k hltR0
   rw [hRk0] at hst0
   obtain ⟨p0, hp0⟩ : ∃ u, wr.cell? ⟨h0, k, none⟩ = some u := ⟨_, hm0.row_get (by rw [hlen0]; exact hltR0)⟩
   have fp0 := hm0.frozen k
   have q0 : wr.cell? ⟨w3.heap.size, 0, none⟩ = some (.slice (some ⟨g0, 0, none⟩) t0.s.length t0.s.length) := by rw [hrx.cell]; rfl
   have q1 : wr.cell? ⟨w3.heap.size, 1, none⟩ = some (.slice (some ⟨h0, 0, none⟩) t0.c.length t0.c.length) := by rw [hrx.cell]; rfl
   generalize Ly.slopes kind k0 x g k = sl at *
   generalize Ly.at_ t0.c k = xk at *
   generalize Ly.second x k = sk at *
   generalize Ly.at_ g.c k = gk at *
   have kk1 : (k : Int) < (t0.c.length : Int) := by omega
   have kk3 : (k : Int) < (g.c.length : Int) := by omega
   have kk2 : (0 : Int) ≤ (k : Int) := by omega
   skip
   clear hlen0 hRk0 hltR0 hxin hsin hgin
   have Hm0 := Lib.hid hm0
   have Hgx0 := Lib.hid hgx0
   have Hst0 := Lib.hid hst0
   have Hrx := Lib.hid hrx
   have Hlx := Lib.hid hlx
   have Hc1 := Lib.hid hc1
   have Hc2 := Lib.hid hc2
   clear hm0 hgx0 hst0 hrx hlx hc1 hc2
   go_wp2_with fail
   have KF := Lib.hid (show ∀ Xw, Later wr Xw → Xw.cell? ⟨w.heap.size, 1, none⟩ = some (.slice (some ⟨bg, og, none⟩) g.c.length gd) ∧ Xw.cell? ⟨bg, og + k, none⟩ = some (.int .i64 gk) from fun Xw h => ⟨h.cell u1, h.cell hcg⟩)
   refine wp_region_noPanic ?_
   refine wp_region_held_drew (S := fun Xw => Xw.cell? ⟨w.heap.size, 1, none⟩ = some (.slice (some ⟨bg, og, none⟩) g.c.length gd) ∧ Xw.cell? ⟨bg, og + k, none⟩ = some (.int .i64 gk)) (by kernel_rfl) (KF.out _ Later.au) (fun hHeld => ?_)
   refine tk 0 ?_
   refine tk 1 ?_
   refine tk 2 ?_
   refine tk 3 ?_
   refine tk 4 ?_
   refine tk 6 ?_
   refine tk 7 ?_
   refine tk 8 ?_
   refine tk 9 ?_
   refine tk 10 ?_
   refine rd 5 fun K hK => ?_
   simp only [ga, gs, gz]
   go_simp
   go_at_call 68; (with_reducible refine (Hc1.out _ (H0a.out.trans (Hlx.out.trans (Later.au : Later wr _)))).mono ?_); rintro e wa ⟨rfl, rfl⟩
   try go_wp2_with fail
   refine hK.out _ _ (KF.out _ Later.au) (fun hHeld => ?_)
   clear hK K
   try simp only [ga, gs, gz, Act.put, sa, sz, ss]
   refine rd 11 fun K hK => ?_
   simp only [ga, gs, gz]
   go_simp
   go_at_call 67; (with_reducible refine (Hc2.out _).mono ?_); rintro e wb ⟨rfl, rfl⟩
   try go_wp2_with fail
   refine hK.out _ _ (KF.out _ Later.au) (fun hHeld => ?_)
   clear hK K
   try simp only [ga, gs, gz, Act.put, sa, sz, ss]
   refine tk 12 ?_
   refine tk 13 ?_
   refine tk 14 ?_
   refine tk 15 ?_
   refine tk 16 ?_
   clear KF
   refine wpAnyH_done (by kernel_rfl) ?_ _
   refine NoPanic.normal ?_
   clear hHeld
   go_wp2_with fail
   have k1 := Hm0.out.set_ k (.int .i64 sl.1)
   have m0 : Blk (wr.setCell ⟨h0, k, none⟩ (.int .i64 sl.1)) h0 22 ((R0.take (k + 1) ++ t0.c.drop (k + 1)).map (Value.int .i64)).toArray := by
    rw [← Hst0.out, List.map_set]; simpa using k1
   have m1 := Hgx0.out.far (p := ⟨h0, k, none⟩) hgn0 (.int .i64 sl.1)
   have m2 := Hrx.out.far (p := ⟨h0, k, none⟩) hhr0.symm (.int .i64 sl.1)
   have m3 := Hlx.out.set (p := ⟨h0, k, none⟩) hhb0 (.int .i64 sl.1)
   go_roundw
   case rel => exact ⟨k + 1, by omega, by go_num, m0.drew, m1.drew, m2.drew, m3.drew⟩
   case measure => simp [intOf]; omega
  ·obtain rfl : k = t0.c.length := by omega
   rw [Ly.mid_end R0 t0.c _ HRl0.out.symm HRl0.out] at hm0
   have hlw := H0a.out.trans hlx
   have Hm0 := Lib.hid hm0
   have Hgx0 := Lib.hid hgx0
   have Hrx := Lib.hid hrx
   have Hlx := Lib.hid hlx
   have Hlw := Lib.hid hlw
   clear hm0 hgx0 hrx hlx hlw
   go_wp2_with fail
   refine bodyPost_ret (v := .tuple #[.slice (some ⟨w3.heap.size, 0, none⟩) 1 1, .int .i64 0]) (by simp [results, Tryz.results18, go_sem]) rfl ?_
   refine GoL.ok (A := some ⟨w3.heap.size, 0, none⟩) HE.out ⟨fun a e => ?_, fun j hj => ?_⟩ Hlw.out
   ·injection e with e
    subst e
    exact ⟨_, rfl, hws, Hrx.out.lt, fun k => Hrx.out.frozen k⟩
   ·obtain rfl : j = 0 := by simp at hj; omega
    refine ⟨w3.heap.size, some ⟨g0, 0, none⟩, t0.s.length, some ⟨h0, 0, none⟩, t0.c.length, rfl, by rw [Hrx.out.cell]; rfl, by rw [Hrx.out.cell]; simp [HRl0.out], ?_⟩
    show TenO w.heap.size wr (.agg #[.slice (some ⟨g0, 0, none⟩) t0.s.length t0.s.length, .slice (some ⟨h0, 0, none⟩) R0.length t0.c.length]) ⟨t0.s, R0⟩
    exact teno_of Hgx0.out Hm0.out (by omega) (by omega) (by omega) (by rw [HRl0.out]; omega) HRin0.out (by rw [HRl0.out])
set_option maxHeartbeats 8000000 in
set_option maxRecDepth 20000 in
theorem point_back2 (kind k0 : Int) (A GS GC : Option Addr) (f gc gd : Nat) (g : Ten) (x : List Ten) (w : World) (hn : x.length = 2) (hT : Tns w A x) (hG : TenIn w GS GC gc gd g) (hk0 : Fx.In k0) :
  Calls Tryz.prog 18 #[.int .i64 kind, .int .i64 k0, .agg #[.slice GS g.s.length gc, .slice GC g.c.length gd], .slice A x.length f] w (GoL (Ly.pointBack kind k0 g x) w) := by
 have h01 : Later w (w.alloc (.cells #[.slice GS g.s.length gc, .slice GC g.c.length gd] 30)) := (Later.refl w).alloc _
 have hk := Blk.new w 30 #[.slice GS g.s.length gc, .slice GC g.c.length gd]
 have hn1 : 2 ≤ x.length := by omega
 have hn2 : x.length ≤ 2 := by omega
 have hn0 : 0 < x.length := by omega
 have HT := Lib.hid hT
 have H01 := Lib.hid h01
 have Hk := Lib.hid hk
 have Hk0 := Lib.hid hk0
 have HG := Lib.hid hG
 have Hn := Lib.hid hn
 clear hT h01 hk hk0 hG hn
 go_enter Tryz.func18, Tryz.ntmps18
 go_wp2_with fail
 generalize w.alloc (.cells #[.slice GS g.s.length gc, .slice GC g.c.length gd] 30) = w1 at *
 refine (point_agree kind A f x w1 (by omega) (HT.out.later H01.out)).mono ?_
 rintro e w2 ⟨rfl, hb2⟩
 have h02 := H01.out.call hb2
 have hk2 := (show Later w1 w2 from hb2).blk Hk.out
 clear hb2 Hk H01
 by_cases hg : Ly.ptAgree kind x = 0
 case neg =>
  have HE := Lib.hid (Ly.pointBack_err (k := k0) (g := g) hg)
  have d1 : (Ly.ptAgree kind x == 0) = false := by simpa using hg
  have d2 : (Ly.ptAgree kind x != 0) = true := by simpa using hg
  have Hg := Lib.hid hg
  clear hg
  generalize Ly.ptAgree kind x = ge at *
  have H02 := Lib.hid h02
  have Hk2 := Lib.hid hk2
  clear h02 hk2
  go_wp2_with fail
  refine bodyPost_ret (v := .tuple #[.slice none 0 0, .int .i64 ge]) (by simp [results, Tryz.results18, go_sem]) rfl ?_
  exact GoL.fail HE.out Hg.out H02.out
 obtain ⟨k1, k7, -, l1, l2, hall⟩ := Ly.agree_yes hg
 rw [hg]
 obtain ⟨hr0, -⟩ := Ly.ok_right (hall _ (by rw [got_at (show 0 < x.length by omega)]; exact List.getElem_mem _) : Ly.okTo x (Ly.got x 0) = true)
 obtain ⟨hr1, hs1⟩ := Ly.ok_right (hall _ (by rw [got_at (show 1 < x.length by omega)]; exact List.getElem_mem _) : Ly.okTo x (Ly.got x 1) = true)
 have HN1 := Lib.hid (Ly.same_len hr1 hr0 hs1)
 clear hs1
 have HGa := Lib.hid hg
 clear hg hall
 obtain ⟨b, off, S, sc, C, cd, rfl, hb0, z0, z1, ht⟩ := (HT.out.later h02).first (by omega)
 obtain ⟨r1, r2⟩ := Ly.right_ok hr0
 have u0 := hk2.cell 0
 have u1 := hk2.cell 1
 simp at u0 u1
 have lg1 := HG.out.l1
 have lg2 := HG.out.l2
 obtain ⟨b', off', S1, sc1, C1, cd1, e1, -, z2, z3, ht1⟩ := (HT.out.later h02).at_ (j := 1) (by omega)
 injection e1 with e1; injection e1 with e1 e2; subst e1 e2
 have z2 : w2.cell? ⟨b, off + 2, none⟩ = some (.slice S1 (Ly.got x 1).s.length sc1) := by simpa using z2
 have z3 : w2.cell? ⟨b, off + 3, none⟩ = some (.slice C1 (Ly.got x 1).c.length cd1) := by simpa using z3
 have lx1 := (Ly.right_ok hr1).1
 have lx2 := (Ly.right_ok hr1).2
 have hrg := fun (V : World) (h : Later w2 V) => tensor_right GS GC gc gd g V (by omega) (by omega) (HG.out.later (h02.trans h)).r.1
 have heq := fun (V : World) (h : Later w2 V) => shape_equal GS S gc sc g.s (Ly.got x 0).s V (by omega) (by omega) (HG.out.later (h02.trans h)).r.1 (ht.later h).r.1
 have hE : (Tn.right g && (g.s == (Ly.got x 0).s)) = false → Ly.pointBack kind k0 g x = ([], 20) := Ly.pointBack_bad (HGa.out)
 have H02 := Lib.hid h02
 have Hk2 := Lib.hid hk2
 have Ht := Lib.hid ht
 have Hrg := Lib.hid hrg
 have Heq := Lib.hid heq
 have HE := Lib.hid hE
 clear h02 hk2 ht hrg heq hE
 cases hgr : Tn.right g
 ·have HE := Lib.hid (HE.out (by rw [hgr]; rfl))
  rw [hgr] at Hrg
  clear HE
  have HE := Lib.hid (Ly.pointBack_bad (k := k0) HGa.out (by rw [hgr]; rfl : (Tn.right g && (g.s == (Ly.got x 0).s)) = false))
  go_wp2_with fail
  have KF := Lib.hid (show ∀ Xw, Later w2 Xw → Xw.cell? ⟨w.heap.size, 0, none⟩ = some (.slice GS g.s.length gc) ∧ Xw.cell? ⟨w.heap.size, 1, none⟩ = some (.slice GC g.c.length gd) from fun Xw h => ⟨h.cell u0, h.cell u1⟩)
  refine wp_region_noPanic ?_
  refine wp_region_held_drew (S := fun Xw => Xw.cell? ⟨w.heap.size, 0, none⟩ = some (.slice GS g.s.length gc) ∧ Xw.cell? ⟨w.heap.size, 1, none⟩ = some (.slice GC g.c.length gd)) (by kernel_rfl) (KF.out _ Later.au) (fun hHeld => ?_)
  refine tk 0 ?_
  refine rd 1 fun K hK => ?_
  simp only [ga, gs, gz]
  go_simp
  go_at_call 51; (with_reducible refine (Hrg.out _ (Later.au : Later w2 _)).mono ?_); rintro e wa ⟨rfl, hba⟩
  try go_wp2_with fail
  refine hK.out _ _ (KF.out _ Later.au) (fun hHeld => ?_)
  clear hK K
  try simp only [ga, gs, gz, Act.put, sa, sz, ss]
  refine tk 2 ?_
  refine tk 3 ?_
  refine tn 4 ?_
  refine tn 5 ?_
  refine tn 6 ?_
  refine tn 7 ?_
  refine tn 8 ?_
  refine tn 9 ?_
  refine rd 10 fun K hK => ?_
  simp only [ga, gs, gz]
  go_simp
  refine hK.out _ _ (KF.out _ Later.au) (fun hHeld => ?_)
  clear hK K
  try simp only [ga, gs, gz, Act.put, sa, sz, ss]
  refine tn 11 ?_
  refine tk 12 ?_
  clear KF
  refine wpAnyH_done (by kernel_rfl) ?_ _
  refine NoPanic.normal ?_
  have hla : Later w2 wa := (Later.au : Later w2 wa)
  have h0a := H02.out.trans hla
  clear hba hHeld u0 u1 z0 z1 z2 z3
  have Hla := Lib.hid hla
  have H0a := Lib.hid h0a
  clear hla h0a
  go_wp2_with fail
  refine bodyPost_ret (v := .tuple #[.slice none 0 0, .int .i64 20]) (by simp [results, Tryz.results18, go_sem]) rfl ?_
  exact GoL.fail HE.out (by decide) H0a.out
 rw [hgr] at Hrg
 cases hge : (g.s == (Ly.got x 0).s)
 ·rw [hge] at Heq
  clear HE
  have HE := Lib.hid (Ly.pointBack_bad (k := k0) HGa.out (by rw [hge, Bool.and_false] : (Tn.right g && (g.s == (Ly.got x 0).s)) = false))
  go_wp2_with fail
  have KF := Lib.hid (show ∀ Xw, Later w2 Xw → Xw.cell? ⟨w.heap.size, 0, none⟩ = some (.slice GS g.s.length gc) ∧ Xw.cell? ⟨w.heap.size, 1, none⟩ = some (.slice GC g.c.length gd) ∧ Xw.cell? ⟨b, off, none⟩ = some (.slice S (Ly.got x 0).s.length sc) from fun Xw h => ⟨h.cell u0, h.cell u1, h.cell z0⟩)
  refine wp_region_noPanic ?_
  refine wp_region_held_drew (S := fun Xw => Xw.cell? ⟨w.heap.size, 0, none⟩ = some (.slice GS g.s.length gc) ∧ Xw.cell? ⟨w.heap.size, 1, none⟩ = some (.slice GC g.c.length gd) ∧ Xw.cell? ⟨b, off, none⟩ = some (.slice S (Ly.got x 0).s.length sc)) (by kernel_rfl) (KF.out _ Later.au) (fun hHeld => ?_)
  refine tk 0 ?_
  refine rd 1 fun K hK => ?_
  simp only [ga, gs, gz]
  go_simp
  go_at_call 51; (with_reducible refine (Hrg.out _ (Later.au : Later w2 _)).mono ?_); rintro e wa ⟨rfl, hba⟩
  try go_wp2_with fail
  refine hK.out _ _ (KF.out _ Later.au) (fun hHeld => ?_)
  clear hK K
  try simp only [ga, gs, gz, Act.put, sa, sz, ss]
  refine tk 2 ?_
  refine tk 3 ?_
  refine tk 4 ?_
  refine tk 5 ?_
  refine tk 6 ?_
  refine tk 7 ?_
  refine tk 8 ?_
  refine tk 9 ?_
  refine rd 10 fun K hK => ?_
  simp only [ga, gs, gz]
  go_simp
  go_at_call 43; (with_reducible refine (Heq.out _ (Later.au : Later w2 _)).mono ?_); rintro e wb ⟨rfl, nb, rfl⟩
  try go_wp2_with fail
  refine hK.out _ _ (KF.out _ Later.au) (fun hHeld => ?_)
  clear hK K
  try simp only [ga, gs, gz, Act.put, sa, sz, ss]
  refine tk 11 ?_
  refine tk 12 ?_
  clear KF
  refine wpAnyH_done (by kernel_rfl) ?_ _
  refine NoPanic.normal ?_
  have hla : Later w2 (wa.drewN nb) := (Later.au : Later w2 (wa.drewN nb))
  have h0a := H02.out.trans hla
  clear hba hHeld u0 u1 z0 z1 z2 z3
  have Hla := Lib.hid hla
  have H0a := Lib.hid h0a
  clear hla h0a
  go_wp2_with fail
  refine bodyPost_ret (v := .tuple #[.slice none 0 0, .int .i64 20]) (by simp [results, Tryz.results18, go_sem]) rfl ?_
  exact GoL.fail HE.out (by decide) H0a.out
 rw [hge] at Heq
 have hgs : g.s = (Ly.got x 0).s := by simpa using hge
 have hNg := Ly.same_len hgr hr0 hgs
 clear HE
 have HE := Lib.hid (Ly.pointBack_ok2 (k := k0) HGa.out hgr hgs Hn.out)
 have Hgs := Lib.hid hgs
 have HNg := Lib.hid hNg
 clear hgs hNg
 clear hge
 go_wp2_with fail
 have KF := Lib.hid (show ∀ Xw, Later w2 Xw → Xw.cell? ⟨w.heap.size, 0, none⟩ = some (.slice GS g.s.length gc) ∧ Xw.cell? ⟨w.heap.size, 1, none⟩ = some (.slice GC g.c.length gd) ∧ Xw.cell? ⟨b, off, none⟩ = some (.slice S (Ly.got x 0).s.length sc) from fun Xw h => ⟨h.cell u0, h.cell u1, h.cell z0⟩)
 refine wp_region_noPanic ?_
 refine wp_region_held_drew (S := fun Xw => Xw.cell? ⟨w.heap.size, 0, none⟩ = some (.slice GS g.s.length gc) ∧ Xw.cell? ⟨w.heap.size, 1, none⟩ = some (.slice GC g.c.length gd) ∧ Xw.cell? ⟨b, off, none⟩ = some (.slice S (Ly.got x 0).s.length sc)) (by kernel_rfl) (KF.out _ Later.au) (fun hHeld => ?_)
 refine tk 0 ?_
 refine rd 1 fun K hK => ?_
 simp only [ga, gs, gz]
 go_simp
 go_at_call 51; (with_reducible refine (Hrg.out _ (Later.au : Later w2 _)).mono ?_); rintro e wa ⟨rfl, hba⟩
 try go_wp2_with fail
 refine hK.out _ _ (KF.out _ Later.au) (fun hHeld => ?_)
 clear hK K
 try simp only [ga, gs, gz, Act.put, sa, sz, ss]
 refine tk 2 ?_
 refine tk 3 ?_
 refine tk 4 ?_
 refine tk 5 ?_
 refine tk 6 ?_
 refine tk 7 ?_
 refine tk 8 ?_
 refine tk 9 ?_
 refine rd 10 fun K hK => ?_
 simp only [ga, gs, gz]
 go_simp
 go_at_call 43; (with_reducible refine (Heq.out _ (Later.au : Later w2 _)).mono ?_); rintro e wb ⟨rfl, nb, rfl⟩
 try go_wp2_with fail
 refine hK.out _ _ (KF.out _ Later.au) (fun hHeld => ?_)
 clear hK K
 try simp only [ga, gs, gz, Act.put, sa, sz, ss]
 refine tk 11 ?_
 refine tk 12 ?_
 clear KF
 refine wpAnyH_done (by kernel_rfl) ?_ _
 refine NoPanic.normal ?_
 have hla : Later w2 (wa.drewN nb) := (Later.au : Later w2 (wa.drewN nb))
 have h0a := H02.out.trans hla
 have hka := hla.blk Hk2.out
 have hta := Ht.out.later hla
 have z0a := hla.cell z0
 have z1a := hla.cell z1
 have z2a := hla.cell z2
 have z3a := hla.cell z3
 have ht1a := ht1.later hla
 clear hba hHeld u0 u1 z0 z1 z2 z3 ht1 Ht Hk2 H02 Hrg Heq
 generalize wa.drewN nb = w3 at *
 rw [Hn.out]
 have hsl : ∀ i, Ly.slopes kind k0 x g i = Ly.slope kind k0 (Ly.at_ (Ly.got x 0).c i) (Ly.second x i) (Ly.at_ g.c i) := fun _ => rfl
 have hnum := hta.num
 have hsecin : ∀ i, Fx.In (Ly.second x i) := fun i => by
  unfold Ly.second
  split
  ·exact Fx.in_zero
  ·exact Ly.at_in (Ly.got_in HT.out.in_ 1) i
 have hsec : 2 ≤ x.length → (Ly.got x 1).c.length = (Ly.got x 0).c.length := fun _ => HN1.out
 have hRl0 : (Ly.tab (Ly.got x 0).c.length fun i => (Ly.slopes kind k0 x g i).1).length = (Ly.got x 0).c.length := by rw [Ly.tab_len]
 have hRg0 : ∀ i (hi : i < (Ly.tab (Ly.got x 0).c.length fun i => (Ly.slopes kind k0 x g i).1).length), (Ly.tab (Ly.got x 0).c.length fun i => (Ly.slopes kind k0 x g i).1)[i] = (Ly.slopes kind k0 x g i).1 := fun i hi => Ly.tab_get hi
 have hRin0 : ∀ z ∈ (Ly.tab (Ly.got x 0).c.length fun i => (Ly.slopes kind k0 x g i).1), Fx.In z := Ly.tab_in fun i _ => (Ly.slope_in (Ly.at_in HG.out.num i)).1
 generalize (Ly.tab (Ly.got x 0).c.length fun i => (Ly.slopes kind k0 x g i).1) = R0 at *
 have hRl1 : (Ly.tab (Ly.got x 0).c.length fun i => (Ly.slopes kind k0 x g i).2).length = (Ly.got x 1).c.length := by rw [Ly.tab_len]; exact HN1.out.symm
 have hRg1 : ∀ i (hi : i < (Ly.tab (Ly.got x 0).c.length fun i => (Ly.slopes kind k0 x g i).2).length), (Ly.tab (Ly.got x 0).c.length fun i => (Ly.slopes kind k0 x g i).2)[i] = (Ly.slopes kind k0 x g i).2 := fun i hi => Ly.tab_get hi
 have hRin1 : ∀ z ∈ (Ly.tab (Ly.got x 0).c.length fun i => (Ly.slopes kind k0 x g i).2), Fx.In z := Ly.tab_in fun i _ => (Ly.slope_in (Ly.at_in HG.out.num i)).2
 generalize (Ly.tab (Ly.got x 0).c.length fun i => (Ly.slopes kind k0 x g i).2) = R1 at *
 have Hsec1 := Lib.hid (fun (k : Nat) (hk : k < (Ly.got x 0).c.length) (h2 : 2 ≤ x.length) => (show k < (Ly.got x 1).c.length by rw [hsec h2]; exact hk))
 clear hsec
 generalize htq0 : Ly.got x 0 = t0 at *
 have HTQ0 := Lib.hid htq0
 clear htq0
 generalize htq1 : Ly.got x 1 = t1 at *
 have HTQ1 := Lib.hid htq1
 clear htq1
 clear hHeld
 have Hsl := Lib.hid hsl
 have Hnum := Lib.hid hnum
 have Hsecin := Lib.hid hsecin
 have H0a := Lib.hid h0a
 have Hka := Lib.hid hka
 have Hla := Lib.hid hla
 have HRl0 := Lib.hid hRl0
 have HRg0 := Lib.hid hRg0
 have HRin0 := Lib.hid hRin0
 have HRl1 := Lib.hid hRl1
 have HRg1 := Lib.hid hRg1
 have HRin1 := Lib.hid hRin1
 have Hta := Lib.hid hta
 have Ht1a := Lib.hid ht1a
 have Hz0a := Lib.hid z0a
 have Hz1a := Lib.hid z1a
 have Hz2a := Lib.hid z2a
 have Hz3a := Lib.hid z3a
 clear hsl hnum hsecin h0a hka hla hRl0 hRg0 hRin0 hRl1 hRg1 hRin1 hta ht1a z0a z1a z2a z3a
 obtain ⟨i0, hi, hy0, hy1, hy2⟩ := info_parts tenZ_info
 go_wp2_with (at_make; refine wpList_make_full _ rfl _ _ 27 rfl w.heap.size 30 i0 (.agg #[.slice none 0 0, .slice none 0 0]) 2 Tryz.underlying27 hi hy0 hy1 _ _ _ _ 2 rfl rfl (by first | rfl | simp) (by first | rfl | simp) ?b2 ?b3 H0a.out.size ?_)
 case b2 => rw [hy2]; omega
 case b3 => unfold maxLen; omega
 intro v0 hown hgrow
 clear hi hy0 hy1 hy2
 have hrow0 : Blk v0 w3.heap.size 30 #[.slice none 0 0, .slice none 0 0, .slice none 0 0, .slice none 0 0] := by have h := own_blk hown; simpa [madeCells, List.range_succ] using h
 have hL0 : Later w3 v0 := (Below.refl _ w3).grown hgrow (Nat.le_refl _) (by simp)
 have hws := H0a.out.size
 have hwk := Hka.out.lt
 clear hown hgrow
 have Hrow0 := Lib.hid hrow0
 have HL0 := Lib.hid hL0
 clear hrow0 hL0
 go_wp2_with fail
 refine wp_loop_rounds 3 ?_
 rw [rounds_succ]
 have y0 := HL0.out.cell Hz0a.out
 have y1 := HL0.out.cell Hz1a.out
 go_wp2_with fail
 have hLb := HL0.out.alloc (.cells #[.slice S t0.s.length sc, .slice C t0.c.length cd] 30)
 have hrb := (Hrow0.out).alloc (.cells #[.slice S t0.s.length sc, .slice C t0.c.length cd] 30)
 clear y0 y1
 generalize v0.alloc (.cells #[.slice S t0.s.length sc, .slice C t0.c.length cd] 30) = vb at *
 refine (tensor_copy S C sc cd t0 vb (by omega) (by omega) (Hta.out.later hLb).r).mono ?_
 rintro e vc ⟨v, rfl, ⟨g0, h0, rfl, hg0, hh0, hG0, hH0⟩, hbc⟩
 have hbc' : Later vb vc := hbc
 have hLc := hLb.trans hbc'
 have hrc := hbc'.blk hrb
 have hrlt := hrb.lt
 have hlb := hLb.size
 have hgl0 := hG0.lt
 have hhl0 := hH0.lt
 have x0 := hrc.cell 0
 have x1 := hrc.cell 1
 have fr0 := hrc.frozen 0
 have fr1 := hrc.frozen 1
 simp at x0 x1
 have hgn0 : g0 ≠ h0 := fun e => by
  subst e
  have := hG0.symm.trans hH0
  simp at this
 have hgb0 : w3.heap.size ≤ g0 := by omega
 have hhb0 : w3.heap.size ≤ h0 := by omega
 have hgr0 : g0 ≠ w3.heap.size := by omega
 have hhr0 : h0 ≠ w3.heap.size := by omega
 have hrow1 : Blk ((vc.setCell ⟨w3.heap.size, 0, none⟩ (.slice (some ⟨g0, 0, none⟩) t0.s.length t0.s.length)).setCell ⟨w3.heap.size, 1, none⟩ (.slice (some ⟨h0, 0, none⟩) t0.c.length t0.c.length)) w3.heap.size 30 #[.slice (some ⟨g0, 0, none⟩) t0.s.length t0.s.length, .slice (some ⟨h0, 0, none⟩) t0.c.length t0.c.length, .slice none 0 0, .slice none 0 0] := by
  have := (hrc.set_ 0 (.slice (some ⟨g0, 0, none⟩) t0.s.length t0.s.length)).set_ 1 (.slice (some ⟨h0, 0, none⟩) t0.c.length t0.c.length)
  simpa using this
 have hL1 : Later w3 ((vc.setCell ⟨w3.heap.size, 0, none⟩ (.slice (some ⟨g0, 0, none⟩) t0.s.length t0.s.length)).setCell ⟨w3.heap.size, 1, none⟩ (.slice (some ⟨h0, 0, none⟩) t0.c.length t0.c.length)) := (hLc.set (p := ⟨w3.heap.size, 0, none⟩) (Nat.le_refl _) _).set (p := ⟨w3.heap.size, 1, none⟩) (Nat.le_refl _) _
 have hG10 := (hG0.far (p := ⟨w3.heap.size, 0, none⟩) hgr0 (.slice (some ⟨g0, 0, none⟩) t0.s.length t0.s.length)).far (p := ⟨w3.heap.size, 1, none⟩) hgr0 (.slice (some ⟨h0, 0, none⟩) t0.c.length t0.c.length)
 have hH10 := (hH0.far (p := ⟨w3.heap.size, 0, none⟩) hhr0 (.slice (some ⟨g0, 0, none⟩) t0.s.length t0.s.length)).far (p := ⟨w3.heap.size, 1, none⟩) hhr0 (.slice (some ⟨h0, 0, none⟩) t0.c.length t0.c.length)
 have Hrow1 := Lib.hid hrow1
 have HL1 := Lib.hid hL1
 have HG10 := Lib.hid hG10
 have HH10 := Lib.hid hH10
 clear hrow1 hL1 hG10 hH10
 clear hbc hbc' hLc hrc hG0 hH0 hLb hrb
 go_wp2_with fail
 generalize (vc.setCell ⟨w3.heap.size, 0, none⟩ (.slice (some ⟨g0, 0, none⟩) t0.s.length t0.s.length)).setCell ⟨w3.heap.size, 1, none⟩ (.slice (some ⟨h0, 0, none⟩) t0.c.length t0.c.length) = v1 at *
 clear x0 x1 fr0 fr1
 rw [rounds_succ]
 have y0 := HL1.out.cell Hz2a.out
 have y1 := HL1.out.cell Hz3a.out
 go_wp2_with fail
 have hLb := HL1.out.alloc (.cells #[.slice S1 t1.s.length sc1, .slice C1 t1.c.length cd1] 30)
 have hrb := (Hrow1.out).alloc (.cells #[.slice S1 t1.s.length sc1, .slice C1 t1.c.length cd1] 30)
 have hGb0 := (HG10.out).alloc (.cells #[.slice S1 t1.s.length sc1, .slice C1 t1.c.length cd1] 30)
 have hHb0 := (HH10.out).alloc (.cells #[.slice S1 t1.s.length sc1, .slice C1 t1.c.length cd1] 30)
 clear y0 y1
 generalize v1.alloc (.cells #[.slice S1 t1.s.length sc1, .slice C1 t1.c.length cd1] 30) = vb at *
 refine (tensor_copy S1 C1 sc1 cd1 t1 vb (by omega) (by omega) (Ht1a.out.later hLb).r).mono ?_
 rintro e vc ⟨v, rfl, ⟨g1, h1, rfl, hg1, hh1, hG1, hH1⟩, hbc⟩
 have hbc' : Later vb vc := hbc
 have hLc := hLb.trans hbc'
 have hrc := hbc'.blk hrb
 have hrlt := hrb.lt
 have hlb := hLb.size
 have hgl1 := hG1.lt
 have hhl1 := hH1.lt
 have x0 := hrc.cell 2
 have x1 := hrc.cell 3
 have fr0 := hrc.frozen 2
 have fr1 := hrc.frozen 3
 simp at x0 x1
 have hgn1 : g1 ≠ h1 := fun e => by
  subst e
  have := hG1.symm.trans hH1
  simp at this
 have hgb1 : w3.heap.size ≤ g1 := by omega
 have hhb1 : w3.heap.size ≤ h1 := by omega
 have hgr1 : g1 ≠ w3.heap.size := by omega
 have hhr1 : h1 ≠ w3.heap.size := by omega
 have hrow2 : Blk ((vc.setCell ⟨w3.heap.size, 2, none⟩ (.slice (some ⟨g1, 0, none⟩) t1.s.length t1.s.length)).setCell ⟨w3.heap.size, 3, none⟩ (.slice (some ⟨h1, 0, none⟩) t1.c.length t1.c.length)) w3.heap.size 30 #[.slice (some ⟨g0, 0, none⟩) t0.s.length t0.s.length, .slice (some ⟨h0, 0, none⟩) t0.c.length t0.c.length, .slice (some ⟨g1, 0, none⟩) t1.s.length t1.s.length, .slice (some ⟨h1, 0, none⟩) t1.c.length t1.c.length] := by
  have := (hrc.set_ 2 (.slice (some ⟨g1, 0, none⟩) t1.s.length t1.s.length)).set_ 3 (.slice (some ⟨h1, 0, none⟩) t1.c.length t1.c.length)
  simpa using this
 have hL2 : Later w3 ((vc.setCell ⟨w3.heap.size, 2, none⟩ (.slice (some ⟨g1, 0, none⟩) t1.s.length t1.s.length)).setCell ⟨w3.heap.size, 3, none⟩ (.slice (some ⟨h1, 0, none⟩) t1.c.length t1.c.length)) := (hLc.set (p := ⟨w3.heap.size, 2, none⟩) (Nat.le_refl _) _).set (p := ⟨w3.heap.size, 3, none⟩) (Nat.le_refl _) _
 have hG21 := (hG1.far (p := ⟨w3.heap.size, 2, none⟩) hgr1 (.slice (some ⟨g1, 0, none⟩) t1.s.length t1.s.length)).far (p := ⟨w3.heap.size, 3, none⟩) hgr1 (.slice (some ⟨h1, 0, none⟩) t1.c.length t1.c.length)
 have hH21 := (hH1.far (p := ⟨w3.heap.size, 2, none⟩) hhr1 (.slice (some ⟨g1, 0, none⟩) t1.s.length t1.s.length)).far (p := ⟨w3.heap.size, 3, none⟩) hhr1 (.slice (some ⟨h1, 0, none⟩) t1.c.length t1.c.length)
 have hG20 := (((hbc'.blk hGb0)).far (p := ⟨w3.heap.size, 2, none⟩) hgr0 (.slice (some ⟨g1, 0, none⟩) t1.s.length t1.s.length)).far (p := ⟨w3.heap.size, 3, none⟩) hgr0 (.slice (some ⟨h1, 0, none⟩) t1.c.length t1.c.length)
 have hH20 := (((hbc'.blk hHb0)).far (p := ⟨w3.heap.size, 2, none⟩) hhr0 (.slice (some ⟨g1, 0, none⟩) t1.s.length t1.s.length)).far (p := ⟨w3.heap.size, 3, none⟩) hhr0 (.slice (some ⟨h1, 0, none⟩) t1.c.length t1.c.length)
 have hgg0 : g0 ≠ h1 := by have := hGb0.lt; omega
 have hgh0 : h0 ≠ h1 := by have := hHb0.lt; omega
 have hgk0 : g1 ≠ h0 := by have := hHb0.lt; omega
 have Hrow2 := Lib.hid hrow2
 have HL2 := Lib.hid hL2
 have HG21 := Lib.hid hG21
 have HH21 := Lib.hid hH21
 have HG20 := Lib.hid hG20
 have HH20 := Lib.hid hH20
 clear hrow2 hL2 hG21 hH21 hG20 hH20
 clear hbc hbc' hLc hrc hG1 hH1 hLb hrb hGb0 hHb0
 go_wp2_with fail
 generalize (vc.setCell ⟨w3.heap.size, 2, none⟩ (.slice (some ⟨g1, 0, none⟩) t1.s.length t1.s.length)).setCell ⟨w3.heap.size, 3, none⟩ (.slice (some ⟨h1, 0, none⟩) t1.c.length t1.c.length) = v2 at *
 clear x0 x1 fr0 fr1
 rw [rounds_succ]
 have y0 := HL2.out.cell Hz0a.out
 have y1 := HL2.out.cell Hz1a.out
 go_wp2_with fail
 clear y0 y1
 have hI0 : Blk v2 h0 22 ((R0.take 0 ++ t0.c.drop 0).map (Value.int .i64)).toArray := by simpa using HH20.out
 have hI1 : Blk v2 h1 22 ((R1.take 0 ++ t1.c.drop 0).map (Value.int .i64)).toArray := by simpa using HH21.out
 have HI0 := Lib.hid hI0
 have HI1 := Lib.hid hI1
 clear hI0 hI1
 go_loopw [58] (fun i wx => ∃ k : Nat, k ≤ t0.c.length ∧ i = .int .i64 (k : Int) ∧ Blk wx h0 22 ((R0.take k ++ t0.c.drop k).map (Value.int .i64)).toArray ∧ Blk wx g0 3 (t0.s.map (Value.int .i64)).toArray ∧ Blk wx h1 22 ((R1.take k ++ t1.c.drop k).map (Value.int .i64)).toArray ∧ Blk wx g1 3 (t1.s.map (Value.int .i64)).toArray ∧ Blk wx w3.heap.size 30 #[.slice (some ⟨g0, 0, none⟩) t0.s.length t0.s.length, .slice (some ⟨h0, 0, none⟩) t0.c.length t0.c.length, .slice (some ⟨g1, 0, none⟩) t1.s.length t1.s.length, .slice (some ⟨h1, 0, none⟩) t1.c.length t1.c.length] ∧ Later w3 wx) (fun i _ => t0.c.length - (intOf i).toNat)
 case atStart => exact ⟨0, Nat.zero_le _, rfl, HI0.out, HG20.out, HI1.out, HG21.out, Hrow2.out, HL2.out⟩
 case round =>
  obtain ⟨k, hk, rfl, hm0, hgx0, hm1, hgx1, hrx, hlx⟩ := hrel
  clear HI0 HG20 HH20 HI1 HG21 HH21 Hrow2
  by_cases hlt : k < t0.c.length
  ·obtain ⟨bc, oc, rfl, -, hcx⟩ := (Hta.out.later hlx).cell hlt
   have hltg : k < g.c.length := by rw [HNg.out]; exact hlt
   obtain ⟨bg, og, rfl, -, hcg⟩ := (HG.out.later (H0a.out.trans hlx)).cell hltg
   have u1 : wr.cell? ⟨w.heap.size, 1, none⟩ = some (.slice (some ⟨bg, og, none⟩) g.c.length gd) := by rw [(hlx.blk Hka.out).cell]; rfl
   have hxin := Ly.at_in Hnum.out k
   have hsin := Hsecin.out k
   have hgin := Ly.at_in HG.out.num k
   have hc1 := fun (V : World) (hV : Later w V) => point_second (some ⟨b, off, none⟩) f x k V (by omega) (HT.out.later hV) (fun h2 => by rw [HTQ1.out]; exact Hsec1.out k hlt h2)
   have hc2 := fun (V : World) => point_slope kind k0 (Ly.at_ t0.c k) (Ly.second x k) (Ly.at_ g.c k) V k1 k7 Hk0.out hxin hsin hgin
   rw [Hn.out] at hc1
   rw [← Hsl.out k] at hc2
   have rr1 := r1
   have rr2 := r2
   have hltR0 : k < R0.length := by rw [HRl0.out]; exact hlt
   have hst0 := Ly.mid_step R0 t0.c hltR0 HRl0.out
   have hlen0 := Ly.mid_len R0 t0.c k (by omega) HRl0.out
   have hRk0 := HRg0.out k hltR0
   rw [hRk0] at hst0
   obtain ⟨p0, hp0⟩ : ∃ u, wr.cell? ⟨h0, k, none⟩ = some u := ⟨_, hm0.row_get (by rw [hlen0]; exact hltR0)⟩
   have fp0 := hm0.frozen k
   have q0 : wr.cell? ⟨w3.heap.size, 0, none⟩ = some (.slice (some ⟨g0, 0, none⟩) t0.s.length t0.s.length) := by rw [hrx.cell]; rfl
   have q1 : wr.cell? ⟨w3.heap.size, 1, none⟩ = some (.slice (some ⟨h0, 0, none⟩) t0.c.length t0.c.length) := by rw [hrx.cell]; rfl
   have hltR1 : k < R1.length := by rw [HRl1.out]; rw [HN1.out]; exact hlt
   have hst1 := Ly.mid_step R1 t1.c hltR1 HRl1.out
   have hlen1 := Ly.mid_len R1 t1.c k (by omega) HRl1.out
   have hRk1 := HRg1.out k hltR1
   rw [hRk1] at hst1
   obtain ⟨p1, hp1⟩ : ∃ u, wr.cell? ⟨h1, k, none⟩ = some u := ⟨_, hm1.row_get (by rw [hlen1]; exact hltR1)⟩
   have fp1 := hm1.frozen k
   have q2 : wr.cell? ⟨w3.heap.size, 2, none⟩ = some (.slice (some ⟨g1, 0, none⟩) t1.s.length t1.s.length) := by rw [hrx.cell]; rfl
   have q3 : wr.cell? ⟨w3.heap.size, 3, none⟩ = some (.slice (some ⟨h1, 0, none⟩) t1.c.length t1.c.length) := by rw [hrx.cell]; rfl
   generalize Ly.slopes kind k0 x g k = sl at *
   generalize Ly.at_ t0.c k = xk at *
   generalize Ly.second x k = sk at *
   generalize Ly.at_ g.c k = gk at *
   have kk1 : (k : Int) < (t0.c.length : Int) := by omega
   have kk3 : (k : Int) < (g.c.length : Int) := by omega
   have kk2 : (0 : Int) ≤ (k : Int) := by omega
   have kk4 : (k : Int) < (t1.c.length : Int) := by have := hltR1; rw [HRl1.out] at this; omega
   clear hlen0 hRk0 hltR0 hlen1 hRk1 hltR1 hxin hsin hgin
   have Hm0 := Lib.hid hm0
   have Hgx0 := Lib.hid hgx0
   have Hst0 := Lib.hid hst0
   have Hm1 := Lib.hid hm1
   have Hgx1 := Lib.hid hgx1
   have Hst1 := Lib.hid hst1
   have Hrx := Lib.hid hrx
   have Hlx := Lib.hid hlx
   have Hc1 := Lib.hid hc1
   have Hc2 := Lib.hid hc2
   clear hm0 hgx0 hst0 hm1 hgx1 hst1 hrx hlx hc1 hc2
   go_wp2_with fail
   have KF := Lib.hid (show ∀ Xw, Later wr Xw → Xw.cell? ⟨w.heap.size, 1, none⟩ = some (.slice (some ⟨bg, og, none⟩) g.c.length gd) ∧ Xw.cell? ⟨bg, og + k, none⟩ = some (.int .i64 gk) from fun Xw h => ⟨h.cell u1, h.cell hcg⟩)
   refine wp_region_noPanic ?_
   refine wp_region_held_drew (S := fun Xw => Xw.cell? ⟨w.heap.size, 1, none⟩ = some (.slice (some ⟨bg, og, none⟩) g.c.length gd) ∧ Xw.cell? ⟨bg, og + k, none⟩ = some (.int .i64 gk)) (by kernel_rfl) (KF.out _ Later.au) (fun hHeld => ?_)
   refine tk 0 ?_
   refine tk 1 ?_
   refine tk 2 ?_
   refine tk 3 ?_
   refine tk 4 ?_
   refine tk 6 ?_
   refine tk 7 ?_
   refine tk 8 ?_
   refine tk 9 ?_
   refine tk 10 ?_
   refine rd 5 fun K hK => ?_
   simp only [ga, gs, gz]
   go_simp
   go_at_call 68; (with_reducible refine (Hc1.out _ (H0a.out.trans (Hlx.out.trans (Later.au : Later wr _)))).mono ?_); rintro e wa ⟨rfl, rfl⟩
   try go_wp2_with fail
   refine hK.out _ _ (KF.out _ Later.au) (fun hHeld => ?_)
   clear hK K
   try simp only [ga, gs, gz, Act.put, sa, sz, ss]
   refine rd 11 fun K hK => ?_
   simp only [ga, gs, gz]
   go_simp
   go_at_call 67; (with_reducible refine (Hc2.out _).mono ?_); rintro e wb ⟨rfl, rfl⟩
   try go_wp2_with fail
   refine hK.out _ _ (KF.out _ Later.au) (fun hHeld => ?_)
   clear hK K
   try simp only [ga, gs, gz, Act.put, sa, sz, ss]
   refine tk 12 ?_
   refine tk 13 ?_
   refine tk 14 ?_
   refine tk 15 ?_
   refine tk 16 ?_
   clear KF
   refine wpAnyH_done (by kernel_rfl) ?_ _
   refine NoPanic.normal ?_
   clear hHeld
   go_wp2_with fail
   have k1 := Hm0.out.set_ k (.int .i64 sl.1)
   have k2 := (Hm1.out.far (p := ⟨h0, k, none⟩) hgh0.symm (.int .i64 sl.1)).set_ k (.int .i64 sl.2)
   have m0 : Blk ((wr.setCell ⟨h0, k, none⟩ (.int .i64 sl.1)).setCell ⟨h1, k, none⟩ (.int .i64 sl.2)) h0 22 ((R0.take (k + 1) ++ t0.c.drop (k + 1)).map (Value.int .i64)).toArray := by
    refine Blk.far ?_ (p := ⟨h1, k, none⟩) hgh0 _
    rw [← Hst0.out, List.map_set]; simpa using k1
   have n0 : Blk ((wr.setCell ⟨h0, k, none⟩ (.int .i64 sl.1)).setCell ⟨h1, k, none⟩ (.int .i64 sl.2)) h1 22 ((R1.take (k + 1) ++ t1.c.drop (k + 1)).map (Value.int .i64)).toArray := by
    rw [← Hst1.out, List.map_set]; simpa using k2
   have m1 := (Hgx0.out.far (p := ⟨h0, k, none⟩) hgn0 (.int .i64 sl.1)).far (p := ⟨h1, k, none⟩) hgg0 (.int .i64 sl.2)
   have n1 := (Hgx1.out.far (p := ⟨h0, k, none⟩) hgk0 (.int .i64 sl.1)).far (p := ⟨h1, k, none⟩) hgn1 (.int .i64 sl.2)
   have m2 := (Hrx.out.far (p := ⟨h0, k, none⟩) hhr0.symm (.int .i64 sl.1)).far (p := ⟨h1, k, none⟩) hhr1.symm (.int .i64 sl.2)
   have m3 := (Hlx.out.set (p := ⟨h0, k, none⟩) hhb0 (.int .i64 sl.1)).set (p := ⟨h1, k, none⟩) hhb1 (.int .i64 sl.2)
   go_roundw
   case rel => exact ⟨k + 1, by omega, by go_num, m0.drew, m1.drew, n0.drew, n1.drew, m2.drew, m3.drew⟩
   case measure => simp [intOf]; omega
  ·obtain rfl : k = t0.c.length := by omega
   rw [Ly.mid_end R0 t0.c _ HRl0.out.symm HRl0.out] at hm0
   rw [Ly.mid_end R1 t1.c _ (by rw [HRl1.out]; exact HN1.out.symm) HRl1.out] at hm1
   have hlw := H0a.out.trans hlx
   have Hm0 := Lib.hid hm0
   have Hgx0 := Lib.hid hgx0
   have Hm1 := Lib.hid hm1
   have Hgx1 := Lib.hid hgx1
   have Hrx := Lib.hid hrx
   have Hlx := Lib.hid hlx
   have Hlw := Lib.hid hlw
   clear hm0 hgx0 hm1 hgx1 hrx hlx hlw
   go_wp2_with fail
   refine bodyPost_ret (v := .tuple #[.slice (some ⟨w3.heap.size, 0, none⟩) 2 2, .int .i64 0]) (by simp [results, Tryz.results18, go_sem]) rfl ?_
   refine GoL.ok (A := some ⟨w3.heap.size, 0, none⟩) HE.out ⟨fun a e => ?_, fun j hj => ?_⟩ Hlw.out
   ·injection e with e
    subst e
    exact ⟨_, rfl, hws, Hrx.out.lt, fun k => Hrx.out.frozen k⟩
   ·have hj2 : j = 0 ∨ j = 1 := by simp at hj; omega
    rcases hj2 with rfl | rfl
    ·refine ⟨w3.heap.size, some ⟨g0, 0, none⟩, t0.s.length, some ⟨h0, 0, none⟩, t0.c.length, rfl, by rw [Hrx.out.cell]; rfl, by rw [Hrx.out.cell]; simp [HRl0.out], ?_⟩
     show TenO w.heap.size wr (.agg #[.slice (some ⟨g0, 0, none⟩) t0.s.length t0.s.length, .slice (some ⟨h0, 0, none⟩) R0.length t0.c.length]) ⟨t0.s, R0⟩
     exact teno_of Hgx0.out Hm0.out (by omega) (by omega) (by omega) (by rw [HRl0.out]; omega) HRin0.out (by rw [HRl0.out])
    ·refine ⟨w3.heap.size, some ⟨g1, 0, none⟩, t1.s.length, some ⟨h1, 0, none⟩, t1.c.length, rfl, by rw [Hrx.out.cell]; rfl, by rw [Hrx.out.cell]; simp [HRl1.out], ?_⟩
     show TenO w.heap.size wr (.agg #[.slice (some ⟨g1, 0, none⟩) t1.s.length t1.s.length, .slice (some ⟨h1, 0, none⟩) R1.length t1.c.length]) ⟨t1.s, R1⟩
     exact teno_of Hgx1.out Hm1.out (by omega) (by omega) (by omega) (by rw [HRl1.out]; omega) HRin1.out (by rw [HRl1.out])
end Go.Proofs.YtbnnpkcfifejmaaGreat
namespace Go.Proofs.YtbnnpkcfifejmaaGreat
open Go.RowKit
def GoB (r : Ly.Bk × Int) (w : World) (e : Ending) (w' : World) : Prop :=
 (r.2 ≠ 0 ∧ e = .returned (.tuple #[.agg #[.slice none 0 0, .slice none 0 0], .int .i64 r.2]) ∨
  r.2 = 0 ∧ ∃ A B, e = .returned (.tuple #[.agg #[.slice A r.1.p.length r.1.p.length, .slice B r.1.x.length r.1.x.length], .int .i64 0]) ∧ TnsO w.heap.size w' A r.1.p ∧ TnsO w.heap.size w' B r.1.x) ∧ Below w.heap.size w w'
theorem GoB.fail {n : Int} {r : Ly.Bk × Int} {w w' : World} (hr : r = (Ly.bnone, n)) (hn : n ≠ 0) (hb : Below w.heap.size w w') : GoB r w (.returned (.tuple #[.agg #[.slice none 0 0, .slice none 0 0], .int .i64 n])) w' := by
 subst hr; exact ⟨.inl ⟨hn, rfl⟩, hb⟩
theorem TnsO.nil (B : Nat) (w : World) : TnsO B w none [] := ⟨fun a e => (by cases e), fun j hj => absurd hj (by simp)⟩
theorem TnsO.base {B B' : Nat} {w : World} {A : Option Addr} {ts : List Ten} (h : TnsO B w A ts) (hB : B' ≤ B) : TnsO B' w A ts :=
 ⟨fun a e => by obtain ⟨b, h1, h2, h3, h4⟩ := h.1 a e; exact ⟨b, h1, by omega, h3, h4⟩, fun j hj => by obtain ⟨b, S, c, C, d, e, c0, c1, hO⟩ := h.2 j hj; exact ⟨b, S, c, C, d, e, c0, c1, hO.base hB⟩⟩
theorem TnsO.later {B : Nat} {w w' : World} {A : Option Addr} {ts : List Ten} (h : TnsO B w A ts) (hl : Later w w') : TnsO B w' A ts :=
 ⟨fun a e => by obtain ⟨b, h1, h2, h3, h4⟩ := h.1 a e; exact ⟨b, h1, h2, Nat.lt_of_lt_of_le h3 hl.size, fun k => (Below.frozen hl (p := ⟨b, k, none⟩) h3).trans (h4 k)⟩,
  fun j hj => by obtain ⟨b, S, c, C, d, e, c0, c1, hO⟩ := h.2 j hj; exact ⟨b, S, c, C, d, e, hl.cell c0, hl.cell c1, hO.later hl⟩⟩
theorem cell_same_block {w w' : World} {b : Nat} (h : w'.heap[b]? = w.heap[b]?) (k : Nat) : w'.cell? ⟨b, k, none⟩ = w.cell? ⟨b, k, none⟩ := World.cell?_of_block h
theorem TnsO.box {B p : Nat} {w : World} {A : Option Addr} {ts : List Ten} {T : TypeId} (h : TnsO B w A ts) (hz : Blk w p T #[.slice none 0 0, .slice none 0 0]) (hA : ∀ a, A = some a → a.block ≠ p) (u u2 : Value) :
  TnsO B ((w.setCell ⟨p, 0, none⟩ u).setCell ⟨p, 1, none⟩ u2) A ts := by
 refine ⟨fun a e => ?_, fun j hj => ?_⟩
 ·obtain ⟨b, h1, h2, h3, h4⟩ := h.1 a e
  exact ⟨b, h1, h2, by simpa using h3, fun k => by rw [World.frozen?_setCell, World.frozen?_setCell]; exact h4 k⟩
 ·obtain ⟨b, S, c, C, d, e, c0, c1, hO⟩ := h.2 j hj
  have hb := hA _ e
  have e0 := cell_same_block (w := w) (w' := (w.setCell ⟨p, 0, none⟩ u).setCell ⟨p, 1, none⟩ u2) (b := b) (far_block hb u u2)
  exact ⟨b, S, c, C, d, e, (e0 _).trans c0, (e0 _).trans c1, hO.box hz⟩
namespace Ly
theorem back_err {o : OpD} {p x : List Ten} {g : Ten} (h : Od.counts o p.length x.length ≠ 0) : back o p x g = (bnone, Od.counts o p.length x.length) := by unfold back; rw [if_neg h]
theorem back_lay {o : OpD} {p x : List Ten} {g : Ten} (h : Od.counts o p.length x.length = 0) : back o p x g = layBack o p x g := by unfold back; rw [if_pos h]
theorem layBack7 {o : OpD} {p x : List Ten} {g : Ten} (h : o.kind ≤ 7) : layBack o p x g = bseveral (pointBack o.kind o.k g x) := by
 unfold layBack
 rw [if_neg (by omega), if_neg (by omega), if_neg (by omega), if_neg (by omega), if_neg (by omega), if_neg (by omega), if_neg (by omega), if_neg (by omega)]
end Ly
theorem point_back (kind k0 : Int) (A GS GC : Option Addr) (f gc gd : Nat) (g : Ten) (x : List Ten) (w : World) (hn : x.length = 1 ∨ x.length = 2) (hT : Tns w A x) (hG : TenIn w GS GC gc gd g) (hk0 : Fx.In k0) :
  Calls Tryz.prog 18 #[.int .i64 kind, .int .i64 k0, .agg #[.slice GS g.s.length gc, .slice GC g.c.length gd], .slice A x.length f] w (GoL (Ly.pointBack kind k0 g x) w) := by
 rcases hn with h | h
 ·exact point_back1 kind k0 A GS GC f gc gd g x w h hT hG hk0
 ·exact point_back2 kind k0 A GS GC f gc gd g x w h hT hG hk0
set_option maxHeartbeats 4000000 in
theorem op_several_ok (A : Option Addr) (n c : Nat) (w : World) :
  Calls Tryz.prog 48 #[.slice A n c, .int .i64 0] w fun e w' => e = .returned (.tuple #[.agg #[.slice none 0 0, .slice A n c], .int .i64 0]) ∧ Below w.heap.size w w' := by
 have hz := Blk.new w 38 #[.slice none 0 0, .slice none 0 0]
 have h01 : Later w (w.alloc (.cells #[.slice none 0 0, .slice none 0 0] 38)) := (Later.refl w).alloc _
 have Hz := Lib.hid hz
 have H01 := Lib.hid h01
 clear hz h01
 go_enter Tryz.func48, Tryz.ntmps48
 go_upto_region 1 with fail
 generalize w.alloc (.cells #[.slice none 0 0, .slice none 0 0] 38) = w1 at *
 have c0 := Hz.out.cell 0
 have c1 := Hz.out.cell 1
 have f0 := Hz.out.frozen 0
 have f1 := Hz.out.frozen 1
 have hz4 := (Hz.out.set_ 0 (.slice none 0 0)).set_ 1 (.slice A n c)
 have d0 := hz4.cell 0
 have d1 := hz4.cell 1
 simp at c0 c1 d0 d1
 go_wp2_with fail
 refine bodyPost_ret (v := .tuple #[.agg #[.slice none 0 0, .slice A n c], .int .i64 0]) (by simp [results, Tryz.results48, go_sem, d0, d1]) rfl ?_
 exact ⟨rfl, (H01.out.set (p := ⟨w.heap.size, 0, none⟩) (Nat.le_refl _) _).set (p := ⟨w.heap.size, 1, none⟩) (Nat.le_refl _) _⟩
set_option maxHeartbeats 4000000 in
theorem op_several_no (A : Option Addr) (n c : Nat) (er : Int) (w : World) (he : er ≠ 0) :
  Calls Tryz.prog 48 #[.slice A n c, .int .i64 er] w fun e w' => e = .returned (.tuple #[.agg #[.slice none 0 0, .slice none 0 0], .int .i64 er]) ∧ Below w.heap.size w w' := by
 have hz := Blk.new w 38 #[.slice none 0 0, .slice none 0 0]
 have h01 : Later w (w.alloc (.cells #[.slice none 0 0, .slice none 0 0] 38)) := (Later.refl w).alloc _
 have e1 : (er != 0) = true := by simpa using he
 have e2 : (er == 0) = false := by simpa using he
 have Hz := Lib.hid hz
 have H01 := Lib.hid h01
 clear hz h01
 go_enter Tryz.func48, Tryz.ntmps48
 go_upto_region 1 with fail
 generalize w.alloc (.cells #[.slice none 0 0, .slice none 0 0] 38) = w1 at *
 have c0 := Hz.out.cell 0
 have c1 := Hz.out.cell 1
 have f0 := Hz.out.frozen 0
 have f1 := Hz.out.frozen 1
 have hz4 := (Hz.out.set_ 0 (.slice none 0 0)).set_ 1 (.slice none 0 0)
 have d0 := hz4.cell 0
 have d1 := hz4.cell 1
 simp at c0 c1 d0 d1
 go_wp2_with fail
 refine bodyPost_ret (v := .tuple #[.agg #[.slice none 0 0, .slice none 0 0], .int .i64 er]) (by simp [results, Tryz.results48, go_sem, d0, d1]) rfl ?_
 exact ⟨rfl, (H01.out.set (p := ⟨w.heap.size, 0, none⟩) (Nat.le_refl _) _).set (p := ⟨w.heap.size, 1, none⟩) (Nat.le_refl _) _⟩
set_option maxHeartbeats 8000000 in
set_option maxRecDepth 20000 in
theorem op_back7 (o : OpD) (S P X GS GC : Option Addr) (c cp cx gc gd : Nat) (p x : List Ten) (g : Ten) (w : World) (hk : o.kind ≤ 7) (ho : o.s.length ≤ 1048576) (hI : Ints .i64 w S o.s) (hk0 : Fx.In o.k) (hX : Tns w X x) (lX : x.length ≤ 1048576) (hG : TenIn w GS GC gc gd g) :
  Calls Tryz.prog 11 #[.agg #[.int .i64 o.kind, .int .i64 o.k, .int .i64 o.width, .int .i64 o.step, .int .i64 o.side, .int .i64 o.frm, .int .i64 o.to, .slice S o.s.length c], .slice P p.length cp, .slice X x.length cx, .agg #[.slice GS g.s.length gc, .slice GC g.c.length gd]] w (GoB (Ly.back o p x g) w) := by
 have h01 : Later w (((w.alloc (.cells #[.int .i64 o.kind, .int .i64 o.k, .int .i64 o.width, .int .i64 o.step, .int .i64 o.side, .int .i64 o.frm, .int .i64 o.to, .slice S o.s.length c] 26)).alloc (.cells #[.slice GS g.s.length gc, .slice GC g.c.length gd] 30)).alloc (.cells #[.slice none 0 0, .slice none 0 0] 38)) := (((Later.refl w).alloc _).alloc _).alloc _
 have hko1 := ((Blk.new w 26 #[.int .i64 o.kind, .int .i64 o.k, .int .i64 o.width, .int .i64 o.step, .int .i64 o.side, .int .i64 o.frm, .int .i64 o.to, .slice S o.s.length c]).alloc (.cells #[.slice GS g.s.length gc, .slice GC g.c.length gd] 30)).alloc (.cells #[.slice none 0 0, .slice none 0 0] 38)
 have hkg1 := (Blk.new (w.alloc (.cells #[.int .i64 o.kind, .int .i64 o.k, .int .i64 o.width, .int .i64 o.step, .int .i64 o.side, .int .i64 o.frm, .int .i64 o.to, .slice S o.s.length c] 26)) 30 #[.slice GS g.s.length gc, .slice GC g.c.length gd]).alloc (.cells #[.slice none 0 0, .slice none 0 0] 38)
 have hz1 := Blk.new ((w.alloc (.cells #[.int .i64 o.kind, .int .i64 o.k, .int .i64 o.width, .int .i64 o.step, .int .i64 o.side, .int .i64 o.frm, .int .i64 o.to, .slice S o.s.length c] 26)).alloc (.cells #[.slice GS g.s.length gc, .slice GC g.c.length gd] 30)) 38 #[.slice none 0 0, .slice none 0 0]
 simp only [World.size_alloc] at hkg1 hz1
 have HI := Lib.hid hI
 have HX := Lib.hid hX
 have HG := Lib.hid hG
 have H01 := Lib.hid h01
 have Hko1 := Lib.hid hko1
 have Hkg1 := Lib.hid hkg1
 have Hz1 := Lib.hid hz1
 have Hk0 := Lib.hid hk0
 clear hI hX hG h01 hko1 hkg1 hz1 hk0
 go_enter Tryz.func11, Tryz.ntmps11
 go_wp2_with fail
 generalize ((w.alloc (.cells #[.int .i64 o.kind, .int .i64 o.k, .int .i64 o.width, .int .i64 o.step, .int .i64 o.side, .int .i64 o.frm, .int .i64 o.to, .slice S o.s.length c] 26)).alloc (.cells #[.slice GS g.s.length gc, .slice GC g.c.length gd] 30)).alloc (.cells #[.slice none 0 0, .slice none 0 0] 38) = w1 at *
 refine (op_counts o S c p.length x.length w1 (by omega) (HI.out.below H01.out (Nat.le_refl _))).mono ?_
 rintro e w2 ⟨rfl, hb2⟩
 have h12 : Later w1 w2 := hb2
 have hH := H01.out.trans h12
 have hz := h12.blk Hz1.out
 have hko := h12.blk Hko1.out
 have hkg := h12.blk Hkg1.out
 clear hb2 h12 H01 Hz1 Hko1 Hkg1
 by_cases hc : Od.counts o p.length x.length = 0
 case neg =>
  have HE := Lib.hid (Ly.back_err (g := g) hc)
  have Hc := Lib.hid hc
  have d2 : (Od.counts o p.length x.length != 0) = true := by simpa using hc
  clear hc
  generalize Od.counts o p.length x.length = ge at *
  have c0' := hz.cell 0
  have c1' := hz.cell 1
  have f0 := hz.frozen 0
  have f1 := hz.frozen 1
  have hz4 := (hz.set_ 0 (.slice none 0 0)).set_ 1 (.slice none 0 0)
  have d0 := hz4.cell 0
  have d1 := hz4.cell 1
  simp at c0' c1' d0 d1
  have HH := Lib.hid hH
  have Hz := Lib.hid hz
  have Hko := Lib.hid hko
  have Hkg := Lib.hid hkg
  have Hz4 := Lib.hid hz4
  clear hH hz hko hkg hz4
  go_wp2_with fail
  refine bodyPost_ret (v := .tuple #[.agg #[.slice none 0 0, .slice none 0 0], .int .i64 ge]) (by simp [results, Tryz.results11, go_sem, d0, d1]) rfl ?_
  exact GoB.fail HE.out Hc.out ((HH.out.set (p := ⟨w.heap.size + 2, 0, none⟩) (by simp) _).set (p := ⟨w.heap.size + 2, 1, none⟩) (by simp) _)
 have hun := Ly.counts_ok hc
 have hkr := Od.right_kind hun.1
 have hxn : x.length = 1 ∨ x.length = 2 := by
  have h1 := hun.2.1
  have h2 := hun.2.2.1
  unfold Od.least Od.ptIns at h1
  unfold Od.most Od.ptIns at h2
  rw [if_pos hun.1, if_pos hk] at h1 h2
  split at h1
  ·rename_i hh; rw [if_pos hh] at h2; omega
  ·rename_i hh
   rw [if_neg hh] at h2
   split at h1
   ·rename_i h3; rw [if_pos h3] at h2; omega
   ·omega
 have HE := Lib.hid ((Ly.back_lay (g := g) hc).trans (Ly.layBack7 hk))
 rw [hc]
 clear hun hc
 have x0 : w2.cell? ⟨w.heap.size, 0, none⟩ = some (.int .i64 o.kind) := by rw [hko.cell]; rfl
 have x1 : w2.cell? ⟨w.heap.size, 1, none⟩ = some (.int .i64 o.k) := by rw [hko.cell]; rfl
 have g0 := hkg.cell 0
 have g1 := hkg.cell 1
 simp at g0 g1
 have k8 : (o.kind == 8) = false := by rw [beq_eq_false_iff_ne]; omega
 have k9 : (o.kind == 9) = false := by rw [beq_eq_false_iff_ne]; omega
 have k10 : (o.kind == 10) = false := by rw [beq_eq_false_iff_ne]; omega
 have k11 : (o.kind == 11) = false := by rw [beq_eq_false_iff_ne]; omega
 have k12 : (o.kind == 12) = false := by rw [beq_eq_false_iff_ne]; omega
 have k13 : (o.kind == 13) = false := by rw [beq_eq_false_iff_ne]; omega
 have k14 : (o.kind == 14) = false := by rw [beq_eq_false_iff_ne]; omega
 have k15 : (o.kind == 15) = false := by rw [beq_eq_false_iff_ne]; omega
 have hcall := point_back o.kind o.k X GS GC cx gc gd g x w2 hxn (HX.out.later hH) (HG.out.later hH) Hk0.out
 obtain ⟨R, hR⟩ : ∃ R, Ly.pointBack o.kind o.k g x = R := ⟨_, rfl⟩
 rw [hR] at hcall HE
 have HH := Lib.hid hH
 have Hz := Lib.hid hz
 have Hko := Lib.hid hko
 have Hkg := Lib.hid hkg
 have Hcall := Lib.hid hcall
 have Hxn := Lib.hid hxn
 have HR := Lib.hid hR
 clear hH hz hko hkg hcall hxn hR
 go_wp2_with fail
 refine (Hcall.out).mono ?_
 rintro e w3 ⟨⟨hne, rfl⟩ | ⟨h0, A, rfl, hO⟩, hb3⟩
 ·have h23 : Later w2 w3 := hb3
  have hE2 : Ly.bseveral R = (Ly.bnone, R.2) := by unfold Ly.bseveral; rw [if_neg hne]
  rw [hE2] at HE
  have h03 := HH.out.trans h23
  have hz3 := h23.blk Hz.out
  have Hne := Lib.hid hne
  clear hb3 x0 x1 g0 g1 k8 k9 k10 k11 k12 k13 k14 k15 hne hE2
  generalize R.2 = ge at *
  have H23 := Lib.hid h23
  have H03 := Lib.hid h03
  have Hz3 := Lib.hid hz3
  clear h23 h03 hz3
  go_wp2_with fail
  refine (op_several_no none 0 0 ge w3 Hne.out).mono ?_
  rintro e w4 ⟨rfl, hb4⟩
  have h34 : Later w3 w4 := hb4
  have h04 := H03.out.trans h34
  have hz4 := h34.blk Hz3.out
  have c0' := hz4.cell 0
  have c1' := hz4.cell 1
  have f0 := hz4.frozen 0
  have f1 := hz4.frozen 1
  have hz5 := (hz4.set_ 0 (.slice none 0 0)).set_ 1 (.slice none 0 0)
  have d0 := hz5.cell 0
  have d1 := hz5.cell 1
  simp at c0' c1' d0 d1
  clear hb4
  have H34 := Lib.hid h34
  have H04 := Lib.hid h04
  have Hz4 := Lib.hid hz4
  have Hz5 := Lib.hid hz5
  clear h34 h04 hz4 hz5
  go_wp2_with fail
  refine bodyPost_ret (v := .tuple #[.agg #[.slice none 0 0, .slice none 0 0], .int .i64 ge]) (by simp [results, Tryz.results11, go_sem, d0, d1]) rfl ?_
  exact GoB.fail HE.out Hne.out ((H04.out.set (p := ⟨w.heap.size + 2, 0, none⟩) (by simp) _).set (p := ⟨w.heap.size + 2, 1, none⟩) (by simp) _)
 ·have h23 : Later w2 w3 := hb3
  have hE2 : Ly.bseveral R = (⟨[], R.1⟩, 0) := by unfold Ly.bseveral; rw [if_pos h0]
  rw [hE2] at HE
  have h03 := HH.out.trans h23
  have hz3 := h23.blk Hz.out
  have hs2 := Hz.out.lt
  have hs0 := HH.out.size
  clear hb3 x0 x1 g0 g1 k8 k9 k10 k11 k12 k13 k14 k15 hE2 h0
  have H23 := Lib.hid h23
  have H03 := Lib.hid h03
  have Hz3 := Lib.hid hz3
  have HO := Lib.hid hO
  clear h23 h03 hz3 hO
  go_wp2_with fail
  refine (op_several_ok A R.1.length R.1.length w3).mono ?_
  rintro e w4 ⟨rfl, hb4⟩
  have h34 : Later w3 w4 := hb4
  have h04 := H03.out.trans h34
  have hz4 := h34.blk Hz3.out
  have hO4 := HO.out.later h34
  have hA4 : ∀ a, A = some a → a.block ≠ w.heap.size + 2 := fun a e => by
   obtain ⟨b, h1, h2, -, -⟩ := hO4.1 a e
   rw [h1]
   show b ≠ _
   omega
  have c0' := hz4.cell 0
  have c1' := hz4.cell 1
  have f0 := hz4.frozen 0
  have f1 := hz4.frozen 1
  have hz5 := (hz4.set_ 0 (.slice none 0 0)).set_ 1 (.slice A R.1.length R.1.length)
  have d0 := hz5.cell 0
  have d1 := hz5.cell 1
  simp at c0' c1' d0 d1
  clear hb4
  have H34 := Lib.hid h34
  have H04 := Lib.hid h04
  have Hz4 := Lib.hid hz4
  have Hz5 := Lib.hid hz5
  have HO4 := Lib.hid hO4
  have HA4 := Lib.hid hA4
  clear h34 h04 hz4 hz5 hO4 hA4
  go_wp2_with fail
  refine bodyPost_ret (v := .tuple #[.agg #[.slice none 0 0, .slice A R.1.length R.1.length], .int .i64 0]) (by simp [results, Tryz.results11, go_sem, d0, d1]) rfl ?_
  rw [HE.out]
  exact ⟨.inr ⟨rfl, none, A, rfl, TnsO.nil _ _, (HO4.out.base hs0).box Hz4.out HA4.out _ _⟩, (H04.out.set (p := ⟨w.heap.size + 2, 0, none⟩) (by simp) _).set (p := ⟨w.heap.size + 2, 1, none⟩) (by simp) _⟩
end Go.Proofs.YtbnnpkcfifejmaaGreat
namespace Go.Proofs.YtbnnpkcfifejmaaGreat
open Go.RowKit
set_option maxHeartbeats 4000000 in
theorem turn_back (S C GS GC : Option Addr) (c d gc gd : Nat) (x g : Ten) (w : World) (hx : TenIn w S C c d x) (hg : TenIn w GS GC gc gd g) :
  Calls Tryz.prog 105 #[.agg #[.slice S x.s.length c, .slice C x.c.length d], .agg #[.slice GS g.s.length gc, .slice GC g.c.length gd]] w (GoP (Ly.turnBack x g) w) := by
 obtain ⟨hkx, hkg, hz, h01⟩ := three_boxes w 30 30 30 #[.slice S x.s.length c, .slice C x.c.length d] #[.slice GS g.s.length gc, .slice GC g.c.length gd] #[.slice none 0 0, .slice none 0 0]
 have l1 := hx.l1
 have l2 := hx.l2
 have l3 := hg.l1
 have l4 := hg.l2
 have Hkx := Lib.hid hkx
 have Hkg := Lib.hid hkg
 have Hz := Lib.hid hz
 have H01 := Lib.hid h01
 have Hx := Lib.hid hx
 have Hg := Lib.hid hg
 clear hkx hkg hz h01 hx hg
 go_enter Tryz.func105, Tryz.ntmps105
 go_wp2_with fail
 generalize ((w.alloc (.cells #[.slice S x.s.length c, .slice C x.c.length d] 30)).alloc (.cells #[.slice GS g.s.length gc, .slice GC g.c.length gd] 30)).alloc (.cells #[.slice none 0 0, .slice none 0 0] 30) = w1 at *
 refine (tensor_right S C c d x w1 (by omega) (by omega) (Hx.out.later H01.out).r.1).mono ?_
 rintro e w2 ⟨rfl, hb2⟩
 have h12 : Later w1 w2 := hb2
 have h02 := H01.out.trans h12
 have hz2 := h12.blk Hz.out
 have hkx2 := h12.blk Hkx.out
 have hkg2 := h12.blk Hkg.out
 clear hb2 Hz H01 Hkx Hkg h12
 cases hr : Tn.right x
 ·have HE := Lib.hid (show Ly.turnBack x g = (Ly.none_, 20) by unfold Ly.turnBack; rw [hr]; rfl)
  clear hr
  have c0 := hz2.cell 0
  have c1 := hz2.cell 1
  have f0 := hz2.frozen 0
  have f1 := hz2.frozen 1
  simp at c0 c1
  have H02 := Lib.hid h02
  have Hz2 := Lib.hid hz2
  have Hkx2 := Lib.hid hkx2
  have Hkg2 := Lib.hid hkg2
  clear h02 hz2 hkx2 hkg2
  go_wp2_with fail
  refine bodyPost_ret (v := .tuple #[.agg #[.slice none 0 0, .slice none 0 0], .int .i64 20]) (by simp [results, Tryz.results105, go_sem, c0, c1]) rfl ?_
  exact GoP.fail HE.out (by decide) ((H02.out.set (p := ⟨w.heap.size + 2, 0, none⟩) (by simp) _).set (p := ⟨w.heap.size + 2, 1, none⟩) (by simp) _)
 have g0 := hkg2.cell 0
 have g1 := hkg2.cell 1
 simp at g0 g1
 have H02 := Lib.hid h02
 have Hz2 := Lib.hid hz2
 have Hkx2 := Lib.hid hkx2
 have Hkg2 := Lib.hid hkg2
 clear h02 hz2 hkx2 hkg2
 go_wp2_with fail
 refine (tensor_right GS GC gc gd g w2 (by omega) (by omega) (Hg.out.later H02.out).r.1).mono ?_
 rintro e w3 ⟨rfl, hb3⟩
 have h23 : Later w2 w3 := hb3
 have h03 := H02.out.trans h23
 have hz3 := h23.blk Hz2.out
 have hkx3 := h23.blk Hkx2.out
 have hkg3 := h23.blk Hkg2.out
 clear hb3 Hz2 H02 Hkx2 Hkg2 h23 g0 g1
 cases hq : Tn.right g
 ·have HE := Lib.hid (show Ly.turnBack x g = (Ly.none_, 20) by unfold Ly.turnBack; rw [hr, hq]; rfl)
  clear hr hq
  have c0 := hz3.cell 0
  have c1 := hz3.cell 1
  have f0 := hz3.frozen 0
  have f1 := hz3.frozen 1
  simp at c0 c1
  have H03 := Lib.hid h03
  have Hz3 := Lib.hid hz3
  have Hkx3 := Lib.hid hkx3
  have Hkg3 := Lib.hid hkg3
  clear h03 hz3 hkx3 hkg3
  go_wp2_with fail
  refine bodyPost_ret (v := .tuple #[.agg #[.slice none 0 0, .slice none 0 0], .int .i64 20]) (by simp [results, Tryz.results105, go_sem, c0, c1]) rfl ?_
  exact GoP.fail HE.out (by decide) ((H03.out.set (p := ⟨w.heap.size + 2, 0, none⟩) (by simp) _).set (p := ⟨w.heap.size + 2, 1, none⟩) (by simp) _)
 ·have HE := Lib.hid (show Ly.turnBack x g = Ly.of_ x.s g.c by unfold Ly.turnBack; rw [hr, hq]; rfl)
  clear hr hq
  have x0 := hkx3.cell 0
  have x1 := hkg3.cell 1
  simp at x0 x1
  have hn := Hg.out.num
  have hTA : TenR w3 S GC ⟨x.s, g.c⟩ := ⟨(Hx.out.later h03).r.1, (Hg.out.later h03).r.2⟩
  have hcall := (tensor_of S GC c gd ⟨x.s, g.c⟩ w3 l1 l4 hTA).mono (fun e w' h => of_gop h hn)
  rw [← show Ly.turnBack x g = Ly.of_ x.s g.c from HE.out] at hcall
  have Hz2 := Lib.hid hz3
  have Hkx2 := Lib.hid hkx3
  have H02 := Lib.hid h03
  have Hcall := Lib.hid hcall
  clear hz3 hkx3 h03 hcall hTA hn hkg3
  go_wp2_with fail
  clear x0 x1
  refine (Hcall.out).mono ?_
  rintro e wf hgo
  have hlf : Later w3 wf := hgo.2
  have hzf := hlf.blk Hz2.out
  have h0f := H02.out.trans hlf
  have f0 := hzf.frozen 0
  have f1 := hzf.frozen 1
  have hpz : w.heap.size ≤ w.heap.size + 2 := by first | exact Nat.le_refl _ | simp | omega
  rcases hgo.1 with ⟨hne, rfl⟩ | ⟨hn0, v, rfl, hten⟩
  ·have c0 := hzf.cell 0
   have c1 := hzf.cell 1
   simp at c0 c1
   have Hne0 := hne
   generalize hge : (Ly.turnBack x g).2 = ge at *
   have Hge := Lib.hid hge
   have Hne := Lib.hid Hne0
   clear Hne0
   clear hgo hne hlf hge
   have HZf := Lib.hid hzf
   have HLf := Lib.hid h0f
   clear hzf h0f
   go_wp2_with fail
   refine bodyPost_ret (v := .tuple #[.agg #[.slice none 0 0, .slice none 0 0], .int .i64 ge]) (by simp [results, Tryz.results105, go_sem, c0, c1]) rfl ?_
   exact GoP.fail2 Hge.out Hne.out ((HLf.out.set (p := ⟨w.heap.size + 2, 0, none⟩) hpz _).set (p := ⟨w.heap.size + 2, 1, none⟩) hpz _)
  ·have hto := hten.base (H02.out.size)
   clear hgo hten
   obtain ⟨S2, c2, C2, d2, rfl, hti, hs2, hc2⟩ := hto
   have hz3 := (hzf.set_ 0 (.slice S2 (Ly.turnBack x g).1.s.length c2)).set_ 1 (.slice C2 (Ly.turnBack x g).1.c.length d2)
   have d0 := hz3.cell 0
   have d1 := hz3.cell 1
   simp at d0 d1
   have c0 := hzf.cell 0
   have c1 := hzf.cell 1
   simp at c0 c1
   have Hn0 := Lib.hid hn0
   have HZ3 := Lib.hid hz3
   have HZf := Lib.hid hzf
   have HLf := Lib.hid h0f
   have HLF := Lib.hid hlf
   have HTI := Lib.hid hti
   have HS2 := Lib.hid hs2
   have HC2 := Lib.hid hc2
   clear hz3 hzf h0f hlf hti hs2 hc2 hn0
   go_wp2_with fail
   refine bodyPost_ret (v := .tuple #[.agg #[.slice S2 (Ly.turnBack x g).1.s.length c2, .slice C2 (Ly.turnBack x g).1.c.length d2], .int .i64 0]) (by simp [results, Tryz.results105, go_sem, d0, d1]) rfl ?_
   exact ⟨.inr ⟨Hn0.out, _, rfl, TenO.box ⟨S2, c2, C2, d2, rfl, HTI.out, HS2.out, HC2.out⟩ HZf.out⟩, (HLf.out.set (p := ⟨w.heap.size + 2, 0, none⟩) hpz _).set (p := ⟨w.heap.size + 2, 1, none⟩) hpz _⟩
end Go.Proofs.YtbnnpkcfifejmaaGreat
namespace Go.Proofs.YtbnnpkcfifejmaaGreat
open Go.Shelf
def insRen : Go.Shelf.Ren := ⟨fun | 21 => 164 | 27 => 171 | 28 => 172 | 35 => 176 | 39 => 177 | n => n, fun | 22 => 23 | 3 => 3 | 4 => 4 | 0 => 0 | n => n, fun | n => n⟩
theorem laysIns : Go.Proofs.Lays2.n21 Tryz.prog insRen := {
 mixed := by kernel_rfl
 f21 := Tryz.func164.trans (congrArg some (by kernel_rfl))
 f27 := Tryz.func171.trans (congrArg some (by kernel_rfl))
 f28 := Tryz.func172.trans (congrArg some (by kernel_rfl))
 f35 := Tryz.func176.trans (congrArg some (by kernel_rfl))
 f39 := Tryz.func177.trans (congrArg some (by kernel_rfl))
 t0 := Tryz.underlying0
 a0 := Tryz.isAgg0
 z0 := Tryz.sizeOf0
 v0 := Tryz.zeroValue0
 t3 := Tryz.underlying3
 a3 := Tryz.isAgg3
 z3 := Tryz.sizeOf3
 v3 := Tryz.zeroValue3
 t4 := Tryz.underlying4
 a4 := Tryz.isAgg4
 z4 := Tryz.sizeOf4
 v4 := Tryz.zeroValue4
 t22 := Tryz.underlying23
 a22 := Tryz.isAgg23
 z22 := Tryz.sizeOf23
 v22 := Tryz.zeroValue23
 i3 := by kernel_rfl }
end Go.Proofs.YtbnnpkcfifejmaaGreat
namespace Go.Proofs.YtbnnpkcfifejmaaGreat
open Go.RowKit
def URow (X : Nat → Prop) (B : Nat) (w : World) (g : Nat) (t e : TypeId) (us : List (List Int)) : Prop :=
 X g ∧ ∃ vs : List Value, vs.length = us.length ∧ Blk w g t vs.toArray ∧
  (∀ j (hj : j < us.length) v, vs[j]? = some v → w.ownsRow B e 1 v us[j].length (us[j].map (Value.int .i64))) ∧
  (∀ (j : Nat) (v : Value) (b : Nat), vs[j]? = some v → v.ownBlock = some b → ¬ X b) ∧
  (∀ (i j : Nat) (u v : Value) (b : Nat), i ≠ j → vs[i]? = some u → vs[j]? = some v → u.ownBlock = some b → v.ownBlock ≠ some b)
section
variable {X : Nat → Prop} {B : Nat} {w w' : World} {g : Nat} {t e : TypeId} {us : List (List Int)}
theorem URow.lt (h : URow X B w g t e us) : g < w.heap.size := by obtain ⟨_, vs, _, hb, _⟩ := h; exact hb.lt
theorem URow.agree (h : URow X B w g t e us) (ha : ∀ b, b < w.heap.size → (b = g ∨ ¬ X b) → w'.heap[b]? = w.heap[b]?) : URow X B w' g t e us := by
 obtain ⟨hg, vs, hl, hk, ho, hx, hd⟩ := h
 refine ⟨hg, vs, hl, (ha g hk.lt (.inl rfl)).trans hk, fun j hj v hv => ?_, hx, hd⟩
 exact ownsRow_heap (ho j hj v hv) fun b hb => ha b ((ho j hj v hv).lt b hb).2 (.inr (hx j v b hv hb))
theorem URow.new {n : Nat} (hX : X g) (h : Blk w g t (List.replicate n (Value.slice none 0 0)).toArray) : URow X B w g t e (List.replicate n []) := by
 refine ⟨hX, List.replicate n (.slice none 0 0), by simp, h, fun j hj v hv => ?_, fun j v b hv hb => ?_, fun i j u v b _ hu _ hb => ?_⟩
 ·rw [List.getElem?_replicate] at hv
  split at hv
  ·injection hv with hv
   subst hv
   simpa using World.ownsRow_nil w B e 1
  ·cases hv
 ·rw [List.getElem?_replicate] at hv
  split at hv
  ·injection hv with hv; subst hv; simp [Value.ownBlock] at hb
  ·cases hv
 ·rw [List.getElem?_replicate] at hu
  split at hu
  ·injection hu with hu; subst hu; simp [Value.ownBlock] at hb
  ·cases hu
theorem URow.at_ (h : URow X B w g t e us) (hlt : ∀ b, X b → b < w.heap.size) {j : Nat} (hj : j < us.length) :
  ∃ v, w.cell? ⟨g, j, none⟩ = some v ∧ w.ownsRow B e 1 v us[j].length (us[j].map (Value.int .i64)) ∧ (∀ b, v.ownBlock = some b → ¬ X b) ∧
   ∀ v' w1 x, w1.ownsRow B e 1 v' (us[j].length + 1) (us[j].map (Value.int .i64) ++ [.int .i64 x]) → w.grownBy w1 v.ownBlock → (v'.ownBlock = v.ownBlock ∨ v'.ownBlock = some w.heap.size) →
    URow X B (w1.setCell ⟨g, j, none⟩ v') g t e (us.set j (us[j] ++ [x])) := by
 obtain ⟨hg, vs, hl, hk, ho, hx, hd⟩ := h
 obtain ⟨v, hv⟩ : ∃ v, vs[j]? = some v := ⟨vs[j], List.getElem?_eq_getElem (by omega)⟩
 refine ⟨v, by rw [hk.cell j]; simpa using hv, ho j hj v hv, fun b hb => hx j v b hv hb, fun v' w1 x hown hgr hat => ?_⟩
 have hgv : some g ≠ v.ownBlock := fun h => hx j v g hv h.symm hg
 have hk1 : Blk w1 g t vs.toArray := (hgr.block g hk.lt hgv).trans hk
 have hb' : ∀ b, v'.ownBlock = some b → ¬ X b := fun b hb => by
  rcases hat with h | h
  ·exact hx j v b hv (h ▸ hb)
  ·rw [h] at hb; injection hb with hb; subst hb; intro hX; have := hlt _ hX; omega
 have hset : ∀ b, b ≠ g → (w1.setCell ⟨g, j, none⟩ v').heap[b]? = w1.heap[b]? := fun b hb => Below.heap_setCell w1 _ _ b hb
 refine ⟨hg, vs.set j v', by simp [hl], ?_, fun i hi u hu => ?_, fun i u b hu hb => ?_, fun i k u z b hik hu hz hb => ?_⟩
 ·have := hk1.set_ j v'
  simpa using this
 ·rw [List.length_set] at hi
  by_cases e : j = i
  ·subst e
   rw [List.getElem?_set_self (by omega)] at hu
   injection hu with hu
   subst hu
   have := ownsRow_heap (w' := w1.setCell ⟨g, j, none⟩ v') hown fun b hb => hset b fun q => hb' b hb (q ▸ hg)
   simpa using this
  ·rw [List.getElem?_set_ne e] at hu
   simp only [List.getElem_set_ne e]
   refine ownsRow_heap (ho i hi u hu) fun b hb => ?_
   rw [hset b fun q => hx i u b hu hb (q ▸ hg)]
   exact hgr.block b ((ho i hi u hu).lt b hb).2 fun q => hd i j u v b (fun q => e q.symm) hu hv hb q.symm
 ·by_cases e : j = i
  ·subst e
   rw [List.getElem?_set_self (by omega)] at hu
   injection hu with hu
   subst hu
   exact hb' b hb
  ·rw [List.getElem?_set_ne e] at hu
   exact hx i u b hu hb
 ·have hne : ∀ i' u' b', i' ≠ j → vs[i']? = some u' → u'.ownBlock = some b' → v'.ownBlock ≠ some b' := fun i' u' b' hi' hu' hb' q => by
   rcases hat with h | h
   ·exact hd i' j u' v b' hi' hu' hv hb' (h ▸ q)
   ·rw [h] at q
    injection q with q
    subst q
    have hi2 : i' < us.length := by
     rw [← hl]
     exact (List.getElem?_eq_some_iff.1 hu').1
    have := ((ho i' hi2 u' hu').lt _ hb').2
    omega
  by_cases e : j = i
  ·subst e
   rw [List.getElem?_set_self (by omega)] at hu
   injection hu with hu
   subst hu
   rw [List.getElem?_set_ne hik] at hz
   intro q
   exact hne k z b (fun q => hik q.symm) hz q hb
  ·rw [List.getElem?_set_ne e] at hu
   by_cases e2 : j = k
   ·subst e2
    rw [List.getElem?_set_self (by omega)] at hz
    injection hz with hz
    subst hz
    exact hne i u b (fun q => e q.symm) hu hb
   ·rw [List.getElem?_set_ne e2] at hz
    exact hd i k u z b hik hu hz hb
end
end Go.Proofs.YtbnnpkcfifejmaaGreat
namespace Go.Proofs.YtbnnpkcfifejmaaGreat
open Go.RowKit
theorem splice_cons {L : List Value} {o : Nat} {v : Value} {r : List Value} (h : o + (v :: r).length ≤ L.length) : splice (L.set o v) (o + 1) r = splice L o (v :: r) := by
 simp only [List.length_cons] at h
 unfold splice
 have e1 : (L.set o v).take (o + 1) = L.take o ++ [v] := by
  rw [List.take_succ_eq_append_getElem (by simp; omega), List.take_set_of_le (Nat.le_refl _)]
  simp
 rw [e1, List.drop_set_of_lt (by omega)]
 simp [Nat.add_assoc, Nat.add_comm 1]
theorem setCells_blk {g : Nat} {t : TypeId} : ∀ (vs : List Value) (o : Nat) (w : World) (L : List Value), Blk w g t L.toArray → o + vs.length ≤ L.length → Blk (w.setCells g o vs) g t (splice L o vs).toArray
 | [], o, w, L, h, _ => by rw [splice_zero]; exact h
 | v :: r, o, w, L, h, hl => by
  rw [← splice_cons hl]
  refine setCells_blk r (o + 1) _ _ ?_ (by simp at hl ⊢; omega)
  have := h.set_ o v
  simpa using this
theorem setCells_fr {S : Nat → Prop} {g : Nat} (hg : S g) : ∀ (vs : List Value) (o : Nat) (w0 w : World), Fr S w0 w → Fr S w0 (w.setCells g o vs)
 | [], _, _, _, h => h
 | v :: r, o, w0, w, h => setCells_fr hg r (o + 1) w0 _ (h.setCell (fun _ => hg) v)
theorem fr_new {S : Nat → Prop} {w w1 : World} (h : Fr S w w1) : ∀ (vs : List Value) (o : Nat), Fr S w (w1.setCells w.heap.size o vs)
 | [], _ => h
 | v :: r, o => fr_new (h.setCell (p := ⟨w.heap.size, o, none⟩) (fun q => absurd q (Nat.lt_irrefl _)) v) r (o + 1)
theorem Blk.shape {w : World} {g : Nat} {t : TypeId} {cs : Array Value} (h : Blk w g t cs) : w.shape? g = some (t, cs.size) := by
 unfold Blk at h
 simp [World.shape?, h]
theorem Blk.own {w : World} {B g n : Nat} {t : TypeId} {L : List Value} {xs : List Value} (h : Blk w g t L.toArray) (hB : B ≤ g) (hn : xs.length = n) (hl : n ≤ L.length) (hm : L.length ≤ maxLen) (ht : L.take n = xs) {c : Nat} (hc : c = L.length) :
  w.ownsRow B t 1 (.slice (some ⟨g, 0, none⟩) n c) n xs := by
 subst hc
 exact ⟨by omega, .inr ⟨g, _, _, rfl, hB, h, hl, hm, by simp, by simpa using ht⟩⟩
def OwnPost (B : Nat) (t : TypeId) (v : Value) (zs : List Int) (w : World) (e : Ending) (w' : World) : Prop :=
 ∃ v', e = .returned v' ∧ w'.ownsRow B t 1 v' zs.length (zs.map (Value.int .i64)) ∧ Fr (fun b => v.ownBlock = some b) w w' ∧ (v'.ownBlock = v.ownBlock ∨ v'.ownBlock = some w.heap.size)
theorem spl_mid (A X Y B : List Value) (h : X.length = Y.length) : splice (A ++ (X ++ B)) A.length Y = A ++ (Y ++ B) := by
 unfold splice
 rw [List.take_append_of_le_length (Nat.le_refl _), List.take_length, ← h, ← List.length_append, ← List.append_assoc A X B, List.drop_left]
theorem ins_a {Z D : List Value} {x : Value} {i : Nat} (hi : i < Z.length) (hD : 1 ≤ D.length) : splice (splice (Z ++ D) (i + 1) (Z.drop i)) i [x] = Z.take i ++ x :: Z.drop i ++ D.drop 1 := by
 obtain ⟨d, D', rfl⟩ : ∃ d D', D = d :: D' := by cases D with | nil => simp at hD | cons d D' => exact ⟨d, D', rfl⟩
 obtain ⟨A, b, B, rfl, rfl⟩ : ∃ A b B, Z = A ++ b :: B ∧ i = A.length := ⟨Z.take i, Z[i], Z.drop (i + 1), by rw [← List.drop_eq_getElem_cons hi, List.take_append_drop], by simp; omega⟩
 rw [List.drop_left, List.take_left]
 have e1 : A ++ b :: B ++ d :: D' = (A ++ [b]) ++ ((B ++ [d]) ++ D') := by simp
 have e2 : A.length + 1 = (A ++ [b]).length := by simp
 rw [e1, e2, spl_mid _ _ (b :: B) _ (by simp)]
 have e3 : A ++ [b] ++ (b :: B ++ D') = A ++ ([b] ++ (b :: B ++ D')) := by simp
 rw [e3, spl_mid _ [b] [x] _ rfl]
 simp
theorem ins_b {Z Z1 Z2 : List Value} {x : Value} {i : Nat} (hi : i < Z.length) (h1 : Z1.length = Z.length + 1 - i) : splice (splice (Z.take i ++ Z1 ++ Z2) i [x]) (i + 1) (Z.drop i) = Z.take i ++ x :: Z.drop i ++ Z2 := by
 obtain ⟨d, D, rfl⟩ : ∃ d D, Z1 = d :: D := by cases Z1 with | nil => simp at h1; omega | cons d D => exact ⟨d, D, rfl⟩
 obtain ⟨A, B, rfl, rfl⟩ : ∃ A B, Z = A ++ B ∧ i = A.length := ⟨Z.take i, Z.drop i, (List.take_append_drop _ _).symm, by simp; omega⟩
 rw [List.drop_left, List.take_left]
 have e1 : A ++ d :: D ++ Z2 = A ++ ([d] ++ (D ++ Z2)) := by simp
 rw [e1, spl_mid _ [d] [x] _ rfl]
 have e2 : A ++ ([x] ++ (D ++ Z2)) = (A ++ [x]) ++ (D ++ Z2) := by simp
 have e3 : A.length + 1 = (A ++ [x]).length := by simp
 rw [e2, e3, spl_mid _ _ B _ (by simp at h1; omega)]
 simp
theorem ins_list {zs : List Int} {x : Int} {i : Nat} (h : i ≤ zs.length) : (zs.take i ++ x :: zs.drop i).length = zs.length + 1 := by simp; omega
theorem Blk.cells_map {w : World} {g : Nat} {t : TypeId} {L xs : List Value} {n : Nat} (h : Blk w g t L.toArray) (ht : L.take n = xs) : ∀ j v, xs[j]? = some v → w.cell? ⟨g, 0 + j, none⟩ = some v := fun j v hj => by
 rw [Nat.zero_add, h.cell j]
 subst ht
 rw [List.getElem?_take] at hj
 split at hj
 ·simpa using hj
 ·cases hj
theorem one_cell' {zs : List Int} : ∀ v ∈ zs.map (Value.int .i64), v.oneCell' = true := fun v hv => by
 obtain ⟨x, _, rfl⟩ := List.mem_map.1 hv
 rfl
theorem insert_own (B : Nat) (v : Value) (zs : List Int) (x : Int) (i vb : Nat) (w : World) (hi : i ≤ zs.length) (hn : zs.length ≤ 1099511627776) (hB : B ≤ w.heap.size) (hown : w.ownsRow B 3 1 v zs.length (zs.map (Value.int .i64))) (hv : Blk w vb 3 #[.int .i64 x]) (hvb : v.ownBlock ≠ some vb) :
  Calls Tryz.prog 164 #[v, .int .i64 i, .slice (some ⟨vb, 0, none⟩) 1 1] w (OwnPost B 3 v (zs.take i ++ x :: zs.drop i) w) := by
 have hvc : ∀ j u, [Value.int .i64 x][j]? = some u → w.cell? ⟨vb, 0 + j, none⟩ = some u := fun j u hj => by
  match j, hj with
  | 0, hj => simp at hj; subst hj; rw [hv.cell]; rfl
 have h1v : ∀ u ∈ [Value.int .i64 x], u.oneCell' = true := fun u hu => by simp at hu; subst hu; rfl
 have hmax : maxLen = 9223372036854775807 := rfl
 rcases hown.2 with ⟨rfl, h0⟩ | ⟨g, cap, cur, rfl, hBg, hh, hnc, hcm, hsz, htk⟩
 ·have hz : zs = [] := List.eq_nil_of_length_eq_zero h0
  subst hz
  obtain rfl : i = 0 := by simpa using hi
  refine (Any2.slices_Insert_int_end_grow laysIns none 0 0 vb 0 1 1 [] [.int .i64 x] w (by omega) (by omega) (by omega) (by omega) rfl rfl (fun _ => rfl) (fun a h => by cases h) hvc h1v).mono ?_
  rintro e w' ⟨rfl, rfl⟩
  have hg := grownCap_ge w (0 + 1) 0 3
  have hgm := grownCap_le_maxLen w (0 + 1) 0 3 (by unfold maxLen; omega)
  refine ⟨_, rfl, ?_, ((Fr.refl _ w).drew).alloc _, .inr rfl⟩
  have hk := Blk.new w.drew 3 (([] ++ [Value.int .i64 x]).toArray ++ Builtin.zeroCells (Value.int .i64 0).cells (grownCap w (0 + 1) 0 3 - (0 + 1)))
  have hk2 : Blk (w.drew.alloc (.cells (([] ++ [Value.int .i64 x]).toArray ++ Builtin.zeroCells (Value.int .i64 0).cells (grownCap w (0 + 1) 0 3 - (0 + 1))) 3)) w.heap.size 3 (([Value.int .i64 x] ++ (Builtin.zeroCells (Value.int .i64 0).cells (grownCap w (0 + 1) 0 3 - (0 + 1))).toList).toArray) := by
   have e : (([Value.int .i64 x] ++ (Builtin.zeroCells (Value.int .i64 0).cells (grownCap w (0 + 1) 0 3 - (0 + 1))).toList).toArray) = ([] ++ [Value.int .i64 x]).toArray ++ Builtin.zeroCells (Value.int .i64 0).cells (grownCap w (0 + 1) 0 3 - (0 + 1)) := by
    apply Array.ext'
    simp
   rw [e]
   exact hk
  have hzl : (Builtin.zeroCells (Value.int .i64 0).cells (grownCap w (0 + 1) 0 3 - (0 + 1))).toList.length = grownCap w (0 + 1) 0 3 - (0 + 1) := by
   rw [Array.length_toList, size_zeroCells]; simp [Value.cells]
  exact hk2.own hB rfl (by simp) (by simp only [List.length_append, hzl, List.length_singleton]; omega) (by simp) (by simp only [List.length_append, hzl, List.length_singleton]; show grownCap w (0 + 1) 0 3 = _; omega)
 ·have hk : Blk w g 3 cur.toList.toArray := by simpa [Blk] using hh
  have hcl : cur.toList.length = cap := by simpa using hsz
  have htk' : cur.toList.take zs.length = zs.map (Value.int .i64) := by simpa using htk
  have hcs := hk.cells_map htk'
  have hgv : g ≠ vb := fun h => hvb (by rw [h]; rfl)
  have hml : (zs.map (Value.int .i64)).length = zs.length := by simp
  by_cases hroom : zs.length + 1 ≤ cap
  ·by_cases hlt : i < zs.length
   ·refine (Any2.slices_Insert_int_shift laysIns g 0 zs.length cap i vb 0 1 1 (zs.map (Value.int .i64)) [.int .i64 x] w hlt (by omega) hroom (by omega) (fun h => hgv h.symm) hml rfl hcs ?_ ?_ hvc one_cell' h1v 3 3 1 cap ?_ ?_ (by omega) ?_ ?_).mono ?_
    ·intro j hj; rw [Nat.zero_add, hk.cell]; simp; omega
    ·intro j hj; exact hk.frozen _
    ·exact hv.shape
    ·rw [hk.shape]; simp [hsz]
    ·exact hv.frozen _
    ·exact hv.frozen _
    ·rintro e w' ⟨rfl, rfl⟩
     have hd : (List.drop i (zs.map (Value.int .i64))).length = zs.length - i := by simp
     have k1 := setCells_blk ((zs.map (Value.int .i64)).drop i) (0 + (i + 1)) w.drew _ hk.drew (by rw [hd, hcl]; omega)
     have k2 := setCells_blk [Value.int .i64 x] (0 + i) _ _ k1 (by simp [splice]; omega)
     refine ⟨_, rfl, ?_, setCells_fr (by rfl) _ _ _ _ (setCells_fr (by rfl) _ _ _ _ (Fr.refl _ w).drew), .inl rfl⟩
     have hlen : (splice (splice cur.toList (0 + (i + 1)) ((zs.map (Value.int .i64)).drop i)) (0 + i) [Value.int .i64 x]).length = cap := by
      simp only [splice, List.length_append, List.length_take, List.length_drop, List.length_singleton, hd, hcl]; omega
     rw [ins_list hi]
     refine k2.own hBg (by simp; omega) (by rw [hlen]; omega) (by rw [hlen]; exact hcm) ?_ hlen.symm
     rw [Nat.zero_add, Nat.zero_add]
     have e0 : cur.toList = zs.map (Value.int .i64) ++ cur.toList.drop zs.length := by rw [← htk']; exact (List.take_append_drop _ _).symm
     rw [e0]
     generalize cur.toList.drop zs.length = D at *
     generalize hZ : zs.map (Value.int .i64) = Z at *
     have hZi : i < Z.length := by omega
     have hDl : 1 ≤ D.length := by rw [e0, List.length_append] at hcl; omega
     rw [ins_a hZi hDl]
     have : (Z.take i ++ Value.int .i64 x :: Z.drop i).length = zs.length + 1 := by simp; omega
     rw [List.take_append_of_le_length (by omega), List.take_of_length_le (by omega)]
     rw [← hZ]
     simp [List.map_take, List.map_drop]
   ·obtain rfl : i = zs.length := by omega
    refine (Any2.slices_Insert_int_end_room laysIns g 0 zs.length cap vb 0 1 1 [.int .i64 x] w (by omega) hroom (by omega) rfl ?_ ?_ hvc h1v).mono ?_
    ·intro j hj; rw [Nat.zero_add, hk.cell]; simp; omega
    ·intro j hj; exact hk.frozen _
    ·rintro e w' ⟨rfl, rfl⟩
     have k1 := setCells_blk [Value.int .i64 x] (0 + zs.length) w _ hk (by simp; omega)
     refine ⟨_, rfl, ?_, setCells_fr (by rfl) _ _ _ _ (Fr.refl _ w), .inl rfl⟩
     have hlen : (splice cur.toList (0 + zs.length) [Value.int .i64 x]).length = cap := by
      simp only [splice, List.length_append, List.length_take, List.length_drop, List.length_singleton, hcl]; omega
     rw [ins_list (Nat.le_refl _)]
     refine k1.own hBg (by simp) (by rw [hlen]; omega) (by rw [hlen]; exact hcm) ?_ hlen.symm
     rw [Nat.zero_add]
     unfold splice
     rw [htk', ← List.append_assoc]
     rw [List.take_append_of_le_length (by simp), List.take_of_length_le (by simp)]
     simp
  ·have hce : cap = zs.length := by omega
   subst hce
   have hg := grownCap_ge w (zs.length + 1) zs.length 3
   have hgm := grownCap_le_maxLen w (zs.length + 1) zs.length 3 (by unfold maxLen; omega)
   by_cases hlt : i < zs.length
   ·refine (Any2.slices_Insert_int_grow laysIns g 0 zs.length zs.length i vb 0 1 1 (zs.map (Value.int .i64)) [.int .i64 x] w hlt (by omega) (by omega) (by omega) (by omega) hml rfl hcs hvc one_cell' h1v).mono ?_
    rintro e w' ⟨rfl, rfl⟩
    have hz1 : (Builtin.zeroCells (Value.int .i64 0).cells (zs.length + 1 - i)).toList.length = zs.length + 1 - i := by rw [Array.length_toList, size_zeroCells]; simp [Value.cells]
    have hz2 : (Builtin.zeroCells (Value.int .i64 0).cells (grownCap w (zs.length + 1) zs.length 3 - (zs.length + 1))).toList.length = grownCap w (zs.length + 1) zs.length 3 - (zs.length + 1) := by rw [Array.length_toList, size_zeroCells]; simp [Value.cells]
    generalize hZ1 : Builtin.zeroCells (Value.int .i64 0).cells (zs.length + 1 - i) = Z1 at *
    have hT : insRen.t 3 = 3 := rfl
    rw [hT] at *
    generalize hZ2 : Builtin.zeroCells (Value.int .i64 0).cells (grownCap w (zs.length + 1) zs.length 3 - (zs.length + 1)) = Z2 at *
    generalize hG : grownCap w (zs.length + 1) zs.length 3 = G at *
    have hk0 : Blk (w.alloc (.cells (((zs.map (Value.int .i64)).take i).toArray ++ Z1 ++ Z2) 3)).drew w.heap.size 3 (((zs.map (Value.int .i64)).take i ++ Z1.toList ++ Z2.toList).toArray) := by
     have := Blk.new w 3 (((zs.map (Value.int .i64)).take i).toArray ++ Z1 ++ Z2)
     have e : (((zs.map (Value.int .i64)).take i ++ Z1.toList ++ Z2.toList).toArray) = ((zs.map (Value.int .i64)).take i).toArray ++ Z1 ++ Z2 := by
      apply Array.ext'
      simp
     rw [e]
     exact this.drew
    have hti : ((zs.map (Value.int .i64)).take i).length = i := by simp; omega
    have hd : ((zs.map (Value.int .i64)).drop i).length = zs.length - i := by simp
    have k1 := setCells_blk [Value.int .i64 x] i _ _ hk0 (by simp only [List.length_append, hti, hz1, hz2, List.length_singleton]; omega)
    have k2 := setCells_blk ((zs.map (Value.int .i64)).drop i) (i + 1) _ _ k1.drew (by simp only [splice, List.length_append, List.length_take, List.length_drop, List.length_singleton, hz1, hz2, List.length_map]; omega)
    refine ⟨_, rfl, ?_, ?_, .inr rfl⟩
    ·have hlen : (splice (splice ((zs.map (Value.int .i64)).take i ++ Z1.toList ++ Z2.toList) i [Value.int .i64 x]) (i + 1) ((zs.map (Value.int .i64)).drop i)).length = G := by
      simp only [splice, List.length_append, List.length_take, List.length_drop, List.length_singleton, hz1, hz2, List.length_map]; omega
     rw [ins_list hi]
     refine k2.own hB (by simp; omega) (by rw [hlen]; omega) (by rw [hlen]; exact hgm) ?_ hlen.symm
     generalize hZ : zs.map (Value.int .i64) = Z at *
     rw [ins_b (by omega) (by omega)]
     have : (Z.take i ++ Value.int .i64 x :: Z.drop i).length = zs.length + 1 := by simp; omega
     rw [List.take_append_of_le_length (by omega), List.take_of_length_le (by omega)]
     rw [← hZ]
     simp [List.map_take, List.map_drop]
    ·have f1 : Fr (fun b => (Value.slice (some ⟨g, 0, none⟩) zs.length zs.length).ownBlock = some b) w (w.alloc (.cells (((zs.map (Value.int .i64)).take i).toArray ++ Z1 ++ Z2) 3)) := (Fr.refl _ w).alloc _
     exact fr_new (fr_new f1.drew _ _).drew _ _
   ·obtain rfl : i = zs.length := by omega
    refine (Any2.slices_Insert_int_end_grow laysIns (some ⟨g, 0, none⟩) zs.length zs.length vb 0 1 1 (zs.map (Value.int .i64)) [.int .i64 x] w (by omega) (Nat.le_refl _) (by omega) (by omega) hml rfl (fun h => by cases h) (fun a h => by injection h with h; subst h; intro j u hj; have := hcs j u hj; rw [Addr.add_lit]; simpa using this) hvc h1v).mono ?_
    rintro e w' ⟨rfl, rfl⟩
    have hT : insRen.t 3 = 3 := rfl
    rw [hT] at *
    have hz2 : (Builtin.zeroCells (Value.int .i64 0).cells (grownCap w (zs.length + 1) zs.length 3 - (zs.length + 1))).toList.length = grownCap w (zs.length + 1) zs.length 3 - (zs.length + 1) := by rw [Array.length_toList, size_zeroCells]; simp [Value.cells]
    generalize hZ2 : Builtin.zeroCells (Value.int .i64 0).cells (grownCap w (zs.length + 1) zs.length 3 - (zs.length + 1)) = Z2 at *
    generalize hG : grownCap w (zs.length + 1) zs.length 3 = G at *
    refine ⟨_, rfl, ?_, ((Fr.refl _ w).drew).alloc _, .inr rfl⟩
    have hk0 : Blk (w.drew.alloc (.cells ((zs.map (Value.int .i64) ++ [Value.int .i64 x]).toArray ++ Z2) 3)) w.heap.size 3 ((zs.map (Value.int .i64) ++ [Value.int .i64 x] ++ Z2.toList).toArray) := by
     have := Blk.new w.drew 3 ((zs.map (Value.int .i64) ++ [Value.int .i64 x]).toArray ++ Z2)
     have e : ((zs.map (Value.int .i64) ++ [Value.int .i64 x] ++ Z2.toList).toArray) = (zs.map (Value.int .i64) ++ [Value.int .i64 x]).toArray ++ Z2 := by
      apply Array.ext'
      simp
     rw [e]
     exact this
    have hlen : (zs.map (Value.int .i64) ++ [Value.int .i64 x] ++ Z2.toList).length = G := by simp only [List.length_append, List.length_map, List.length_singleton, hz2]; omega
    rw [ins_list (Nat.le_refl _)]
    refine hk0.own hB (by simp) (by rw [hlen]; omega) (by rw [hlen]; exact hgm) ?_ hlen.symm
    rw [List.take_append_of_le_length (by simp), List.take_of_length_le (by simp)]
    simp
theorem delete_own (B : Nat) (v : Value) (x : Int) (zs : List Int) (w : World) (hn : (x :: zs).length ≤ 1099511627776) (hown : w.ownsRow B 3 1 v (x :: zs).length ((x :: zs).map (Value.int .i64))) :
  Calls Tryz.prog 162 #[v, .int .i64 0, .int .i64 1] w (OwnPost B 3 v zs w) := by
 have hmax : maxLen = 9223372036854775807 := rfl
 rcases hown.2 with ⟨rfl, h0⟩ | ⟨g, cap, cur, rfl, hBg, hh, hnc, hcm, hsz, htk⟩
 ·simp at h0
 ·have hk : Blk w g 3 cur.toList.toArray := by simpa [Blk] using hh
  have hcl : cur.toList.length = cap := by simpa using hsz
  have htk' : cur.toList.take (x :: zs).length = (x :: zs).map (Value.int .i64) := by simpa using htk
  have hcs := hk.cells_map htk'
  refine (Tryz.slices_Delete_int_cells g 0 (x :: zs).length cap 0 1 (x :: zs) w (Nat.le_refl _) hnc (by omega) (by omega) (by simp) ?_ ?_).mono ?_
  ·intro j hj
   refine hcs j _ ?_
   rw [List.getElem?_map, List.getElem?_eq_getElem hj, List.getD_eq_getElem?_getD, List.getElem?_eq_getElem hj]
   rfl
  ·intro j hj; exact hk.frozen _
  ·rintro e w' ⟨rfl, q, rfl⟩
   have hlist : ((((x :: zs).take (x :: zs).length).take 0 ++ ((x :: zs).take (x :: zs).length).drop 1 ++ List.replicate (1 - 0) 0).map (Value.int .i64)) = zs.map (Value.int .i64) ++ [Value.int .i64 0] := by simp
   rw [hlist]
   have k1 := setCells_blk (zs.map (Value.int .i64) ++ [Value.int .i64 0]) 0 (w.drewN q) _ (hk.drewN q) (by rw [hcl]; simp at hnc ⊢; omega)
   refine ⟨_, rfl, ?_, setCells_fr (by rfl) _ _ _ _ ((Fr.refl _ w).drewN q), .inl rfl⟩
   have hlen : (splice cur.toList 0 (zs.map (Value.int .i64) ++ [Value.int .i64 0])).length = cap := by
    simp only [splice, List.length_append, List.length_take, List.length_drop, List.length_singleton, List.length_map, hcl]; simp at hnc; omega
   refine k1.own hBg (by simp) (by rw [hlen]; simp at hnc ⊢; omega) (by rw [hlen]; exact hcm) ?_ hlen.symm
   unfold splice
   simp
theorem search_own (B : Nat) (v : Value) (x : Int) (zs : List Int) (w : World) (hn : zs.length ≤ 1099511627776) (hs : zs.Pairwise (· ≤ ·)) (hown : w.ownsRow B 3 1 v zs.length (zs.map (Value.int .i64))) :
  Calls Tryz.prog 163 #[v, .int .i64 x] w fun e w' => (∃ b, e = .returned (.tuple #[.int .i64 (zs.countP (· < x) : Nat), .bool b])) ∧ ∃ q, w' = w.drewN q := by
 rcases hown.2 with ⟨rfl, h0⟩ | ⟨g, cap, cur, rfl, hBg, hh, hnc, hcm, hsz, htk⟩
 ·have : zs = [] := List.eq_nil_of_length_eq_zero h0
  subst this
  refine (Tryz.slices_BinarySearch_int_empty none 0 x w).mono ?_
  rintro e w' ⟨rfl, rfl⟩
  exact ⟨⟨_, rfl⟩, 0, rfl⟩
 ·have hk : Blk w g 3 cur.toList.toArray := by simpa [Blk] using hh
  have htk' : cur.toList.take zs.length = zs.map (Value.int .i64) := by simpa using htk
  have hcs := hk.cells_map htk'
  refine (Tryz.slices_BinarySearch_int g 0 zs.length cap zs x w (Nat.le_refl _) (by omega) ?_ (by rw [List.take_length]; exact hs)).mono ?_
  ·intro j hj
   refine hcs j _ ?_
   rw [List.getElem?_map, List.getElem?_eq_getElem hj, List.getD_eq_getElem?_getD, List.getElem?_eq_getElem hj]
   rfl
  ·rintro e w' ⟨rfl, q, rfl⟩
   rw [List.take_length]
   exact ⟨⟨_, rfl⟩, q, rfl⟩
end Go.Proofs.YtbnnpkcfifejmaaGreat
namespace Go.Proofs.YtbnnpkcfifejmaaGreat
open Go.RowKit
def Else (g : Nat) (w w' : World) : Prop := (∀ k, k ≠ g → w'.heap[k]? = w.heap[k]?) ∧ w'.heap.size = w.heap.size ∧ Below g w w'
theorem Else.blk {g k : Nat} {w w' : World} {t : TypeId} {cs : Array Value} (h : Else g w w') (hk : k ≠ g) (hb : Blk w k t cs) : Blk w' k t cs := (h.1 k hk).trans hb
theorem Else.below {g B : Nat} {w0 w w' : World} (h : Else g w w') (hb : Below B w0 w) (hB : B ≤ g) : Below B w0 w' := hb.trans (h.2.2.mono hB)
theorem Else.refl (g : Nat) (w : World) : Else g w w := ⟨fun _ _ => rfl, rfl, Below.refl _ _⟩
theorem Else.setCell {g : Nat} {w w' : World} (h : Else g w w') (i : Nat) (u : Value) : Else g w (w'.setCell ⟨g, i, none⟩ u) :=
 ⟨fun k hk => (Below.heap_setCell w' ⟨g, i, none⟩ u k hk).trans (h.1 k hk), by simpa using h.2.1, h.2.2.trans (Below.setCell (Below.refl g w') (p := ⟨g, i, none⟩) (Nat.le_refl _) u)⟩
theorem Else.setCells {g : Nat} {w : World} : ∀ (vs : List Value) (o : Nat) (w' : World), Else g w w' → Else g w (w'.setCells g o vs)
 | [], _, _, h => h
 | v :: r, o, w', h => Else.setCells r (o + 1) _ (h.setCell o v)
theorem run_clear_blk {P : Program} (w : World) (t e ty : TypeId) (ht : P.underlying t = some (.slice e)) (hv : ∀ w, (zeroValue e).run P w = .ok (.int .i64 0) w) (g : Nat) (T : TypeId) (l : List Int) (c : Nat) (hk : Blk w g T (l.map (Value.int .i64)).toArray) (h0 : 0 < l.length) :
  ∃ w', (Builtin.clear_ #[t] ty #[.slice (some ⟨g, 0, none⟩) l.length c]).run P w = .ok (.tuple #[]) w' ∧ Blk w' g T ((Ly.zeros l.length).map (Value.int .i64)).toArray ∧ Else g w w' := by
 refine ⟨_, Lib.run_clear_slice w t e ty (.int .i64 0) ht hv rfl rfl g 0 l.length c h0 (fun j hj => by rw [Nat.zero_add, hk.cell]; simp [hj]) (fun j hj => hk.frozen _), ?_, Else.setCells _ _ _ (Else.refl g w)⟩
 have := setCells_blk (List.replicate l.length (Value.int .i64 0)) 0 w _ hk (by simp)
 rw [show splice (l.map (Value.int .i64)) 0 (List.replicate l.length (Value.int .i64 0)) = (Ly.zeros l.length).map (Value.int .i64) by simp [splice, Ly.zeros]] at this
 exact this
theorem wpList_clear {P : Program} {ops : Array Oper} {rest : List Oper} {o : Oper} {a : Act} {Q : Exit → Act → World → Prop} {w : World} (hgd : o.guard = none) (s : Operand) (t e : TypeId)
  (ho : o.op = .call { callee := .builtin .clear, args := #[s], argTypes := #[t] }) (ht : P.underlying t = some (.slice e)) (hv : ∀ w, (zeroValue e).run P w = .ok (.int .i64 0) w)
  (g : Nat) (T : TypeId) (l : List Int) (c : Nat) (hs : a.eval s = .slice (some ⟨g, 0, none⟩) l.length c) (hk : Blk w g T (l.map (Value.int .i64)).toArray) (h0 : 0 < l.length)
  (h : ∀ w', Blk w' g T ((Ly.zeros l.length).map (Value.int .i64)).toArray → Else g w w' → wpList P ops Q rest (a.put o.dst (.tuple #[])) w') :
  wpList P ops Q (o :: rest) a w := by
 refine wpList_plain hgd fun K hK => ?_
 obtain ⟨w', hr, h1, h2⟩ := run_clear_blk w t e o.type ht hv g T l c hk h0
 unfold Oper.wp execOp
 simp only [ho, resolve, invoke, builtin, Sem.run_bind, Sem.run_pure, Result.andThen_ok, List.map_toArray, List.map_cons, List.map_nil, hs, hr]
 exact hK _ _ (h w' h1 h2)
end Go.Proofs.YtbnnpkcfifejmaaGreat
namespace Go.Proofs.YtbnnpkcfifejmaaGreat
open Go.RowKit
theorem Ints.else_ {w w' : World} {A : Option Addr} {zs : List Int} {p : Nat} (h : Ints .i64 w A zs) (hE : Else p w w') (hp : ∀ k z, w.cell? ⟨p, k, none⟩ ≠ some (.int .i64 z)) : Ints .i64 w' A zs := fun j hj => by
 obtain ⟨b, off, e, hl, hc⟩ := h j hj
 have hne : b ≠ p := by rintro rfl; exact hp _ _ hc
 exact ⟨b, off, e, by rw [hE.2.1]; exact hl, (World.cell?_of_block (hE.1 b hne)).trans hc⟩
theorem TenIn.else_ {w w' : World} {S C : Option Addr} {c d : Nat} {t : Ten} {p : Nat} (h : TenIn w S C c d t) (hE : Else p w w') (hp : ∀ k z, w.cell? ⟨p, k, none⟩ ≠ some (.int .i64 z)) : TenIn w' S C c d t := { h with r := ⟨h.r.1.else_ hE hp, h.r.2.else_ hE hp⟩ }
theorem TenO.else_ {B : Nat} {w w' : World} {v : Value} {t : Ten} {p : Nat} (h : TenO B w v t) (hE : Else p w w') (hp : ∀ k z, w.cell? ⟨p, k, none⟩ ≠ some (.int .i64 z)) (hf : ∀ j, w'.frozen? ⟨p, j, none⟩ = false) : TenO B w' v t := by
 obtain ⟨S, c, C, d, h1, h2, h3, h4⟩ := h
 refine ⟨S, c, C, d, h1, h2.else_ hE hp, h3, fun a e => ?_⟩
 obtain ⟨k1, k2, k3⟩ := h4 a e
 refine ⟨k1, by rw [hE.2.1]; exact k2, fun j => ?_⟩
 by_cases hap : a.block = p
 ·rw [hap]; exact hf j
 ·have := k3 j
  unfold World.frozen? at this ⊢
  rw [hE.1 a.block hap]
  exact this
theorem noint {w : World} {p : Nat} {T : TypeId} {cs : Array Value} (h : Blk w p T cs) (hc : ∀ (k : Nat) (z : Int), cs[k]? ≠ some (.int .i64 z)) : ∀ k z, w.cell? ⟨p, k, none⟩ ≠ some (.int .i64 z) := fun k z e => by
 rw [h.cell] at e
 exact hc k z e
namespace Ly
theorem zeros_in (n : Nat) : ∀ z ∈ zeros n, Fx.In z := fun z hz => by
 have : z = 0 := by unfold zeros at hz; exact (List.mem_replicate.1 hz).2
 subst this
 exact Fx.in_zero
theorem zeros_len2 (n : Nat) : (zeros n).length = n := by simp [zeros]
theorem dback_bad {w b x g : Ten} (h : (denseOk w b x && Tn.right g && decide (g.s = b.s)) = false) : denseBack w b x g = ((none_, none_, none_), 20) := by unfold denseBack; rw [if_neg (by rw [h]; decide)]
theorem dback_ok {w b x g : Ten} (h : (denseOk w b x && Tn.right g && decide (g.s = b.s)) = true) : denseBack w b x g = ((⟨w.s, denseW g.c x.c⟩, g, ⟨x.s, denseX w.c g.c x.c g.c.length⟩), 0) := by unfold denseBack; rw [if_pos h]
theorem denseX_len (w g x : List Int) : ∀ i, (denseX w g x i).length = x.length
 | 0 => zeros_len2 _
 | _ + 1 => tab_len _ _
theorem denseX_in (w g x : List Int) : ∀ i, ∀ z ∈ denseX w g x i, Fx.In z
 | 0 => zeros_in _
 | _ + 1 => tab_in fun _ _ => Fx.add_in _ _
theorem denseX_get (w g x : List Int) {i j : Nat} (hj : j < (denseX w g x (i + 1)).length) : (denseX w g x (i + 1))[j] = Fx.add (at_ (denseX w g x i) j) (Fx.mul (at_ w (i * x.length + j)) (at_ g i)) := tab_get hj
theorem denseW_len (g x : List Int) : (denseW g x).length = g.length * x.length := tab_len _ _
theorem denseW_in (g x : List Int) : ∀ z ∈ denseW g x, Fx.In z := tab_in fun _ _ => Fx.mul_in _ _
theorem denseW_get (g x : List Int) {i j : Nat} (hj : j < x.length) (hk : i * x.length + j < (denseW g x).length) : (denseW g x)[i * x.length + j] = Fx.mul (at_ g i) (at_ x j) := by
 unfold denseW at hk ⊢
 rw [tab_get]
 have h1 : (i * x.length + j) / x.length = i := by rw [Nat.mul_comm, Nat.mul_add_div (by omega), Nat.div_eq_of_lt hj, Nat.add_zero]
 have h2 : (i * x.length + j) % x.length = j := by rw [Nat.mul_comm, Nat.mul_add_mod, Nat.mod_eq_of_lt hj]
 rw [h1, h2]
theorem denseW_at (g x : List Int) {i j : Nat} (hi : i < g.length) (hj : j < x.length) : at_ (denseW g x) (i * x.length + j) = Fx.mul (at_ g i) (at_ x j) := by
 have hk : i * x.length + j < (denseW g x).length := by
  rw [denseW_len]
  have : (i + 1) * x.length ≤ g.length * x.length := Nat.mul_le_mul_right _ hi
  rw [Nat.succ_mul] at this
  omega
 rw [at_get hk, denseW_get g x hj hk]
theorem denseX_at (w g x : List Int) {i j : Nat} (hj : j < x.length) : at_ (denseX w g x (i + 1)) j = Fx.add (at_ (denseX w g x i) j) (Fx.mul (at_ w (i * x.length + j)) (at_ g i)) := by
 have hk : j < (denseX w g x (i + 1)).length := by rw [denseX_len]; exact hj
 rw [at_get hk, denseX_get w g x hk]
theorem mid_put' (C L : List Int) {k : Nat} (hk : k < C.length) (hn : C.length = L.length) : (C.take k ++ L.drop k).set k (at_ C k) = C.take (k + 1) ++ L.drop (k + 1) := by rw [at_get hk]; exact mid_step C L hk hn
theorem mid_at2 (C L : List Int) {k : Nat} (hk : k < C.length) (hn : C.length = L.length) : at_ (C.take k ++ L.drop k) k = at_ L k := by
 unfold at_
 rw [List.getD_eq_getElem?_getD, List.getD_eq_getElem?_getD, List.getElem?_append_right (by simp; omega), List.length_take, Nat.min_eq_left (by omega), Nat.sub_self, List.getElem?_drop, Nat.add_zero]
theorem mid_in {C L : List Int} {k : Nat} (h1 : ∀ z ∈ C, Fx.In z) (h2 : ∀ z ∈ L, Fx.In z) : ∀ z ∈ C.take k ++ L.drop k, Fx.In z := fun z hz => by
 rcases List.mem_append.1 hz with h | h
 ·exact h1 z (List.mem_of_mem_take h)
 ·exact h2 z (List.mem_of_mem_drop h)
end Ly
def GoD (r : (Ten × Ten × Ten) × Int) (w : World) (e : Ending) (w' : World) : Prop :=
 (r.2 ≠ 0 ∧ e = .returned (.tuple #[.agg #[.slice none 0 0, .slice none 0 0, .slice none 0 0, .slice none 0 0, .slice none 0 0, .slice none 0 0], .int .i64 r.2]) ∨
  r.2 = 0 ∧ ∃ S0 c0 C0 d0 S1 c1 C1 d1 S2 c2 C2 d2, e = .returned (.tuple #[.agg #[.slice S0 r.1.1.s.length c0, .slice C0 r.1.1.c.length d0, .slice S1 r.1.2.1.s.length c1, .slice C1 r.1.2.1.c.length d1, .slice S2 r.1.2.2.s.length c2, .slice C2 r.1.2.2.c.length d2], .int .i64 0]) ∧
   TenO w.heap.size w' (.agg #[.slice S0 r.1.1.s.length c0, .slice C0 r.1.1.c.length d0]) r.1.1 ∧ TenO w.heap.size w' (.agg #[.slice S1 r.1.2.1.s.length c1, .slice C1 r.1.2.1.c.length d1]) r.1.2.1 ∧ TenO w.heap.size w' (.agg #[.slice S2 r.1.2.2.s.length c2, .slice C2 r.1.2.2.c.length d2]) r.1.2.2) ∧ Below w.heap.size w w'
def GoC (r : (Ten × Ten) × Int) (w : World) (e : Ending) (w' : World) : Prop :=
 (r.2 ≠ 0 ∧ e = .returned (.tuple #[.agg #[.slice none 0 0, .slice none 0 0, .slice none 0 0, .slice none 0 0], .int .i64 r.2]) ∨
  r.2 = 0 ∧ ∃ S0 c0 C0 d0 S2 c2 C2 d2, e = .returned (.tuple #[.agg #[.slice S0 r.1.1.s.length c0, .slice C0 r.1.1.c.length d0, .slice S2 r.1.2.s.length c2, .slice C2 r.1.2.c.length d2], .int .i64 0]) ∧
   TenO w.heap.size w' (.agg #[.slice S0 r.1.1.s.length c0, .slice C0 r.1.1.c.length d0]) r.1.1 ∧ TenO w.heap.size w' (.agg #[.slice S2 r.1.2.s.length c2, .slice C2 r.1.2.c.length d2]) r.1.2) ∧ Below w.heap.size w w'
end Go.Proofs.YtbnnpkcfifejmaaGreat
namespace Go.Proofs.YtbnnpkcfifejmaaGreat
open Go.RowKit
theorem TnsO.one {B p : Nat} {w : World} {S C : Option Addr} {c d : Nat} {t : Ten} {T : TypeId} (hb : Blk w p T #[.slice S t.s.length c, .slice C t.c.length d]) (hB : B ≤ p) (ht : TenO B w (.agg #[.slice S t.s.length c, .slice C t.c.length d]) t) : TnsO B w (some ⟨p, 0, none⟩) [t] := by
 refine ⟨fun a e => ?_, fun j hj => ?_⟩
 ·injection e with e; subst e; exact ⟨p, rfl, hB, hb.lt, fun k => hb.frozen k⟩
 ·obtain rfl : j = 0 := by simp at hj; omega
  exact ⟨p, S, c, C, d, rfl, hb.cell 0, hb.cell 1, ht⟩
def SgP (S C : Option Addr) (n c m d : Nat) (er : Int) (w : World) (e : Ending) (w' : World) : Prop :=
 ∃ X k, e = .returned (.tuple #[.agg #[.slice none 0 0, .slice X k k], .int .i64 er]) ∧ (er ≠ 0 → X = none ∧ k = 0) ∧ (er = 0 → k = 1 ∧ ∃ p, X = some ⟨p, 0, none⟩ ∧ w.heap.size ≤ p ∧ Blk w' p 30 #[.slice S n c, .slice C m d]) ∧ Below w.heap.size w w'
set_option maxHeartbeats 4000000 in
theorem op_single (S C : Option Addr) (n c m d : Nat) (er : Int) (w : World) :
  Calls Tryz.prog 47 #[.agg #[.slice S n c, .slice C m d], .int .i64 er] w (SgP S C n c m d er w) := by
 obtain ⟨hk, hz, h01⟩ := two_boxes w 30 38 #[.slice S n c, .slice C m d] #[.slice none 0 0, .slice none 0 0]
 by_cases he : er = 0
 ·subst he
  have Hk := Lib.hid hk
  have Hz := Lib.hid hz
  have H01 := Lib.hid h01
  clear hk hz h01
  go_enter Tryz.func47, Tryz.ntmps47
  go_upto_region 1 with fail
  generalize (w.alloc (.cells #[.slice S n c, .slice C m d] 30)).alloc (.cells #[.slice none 0 0, .slice none 0 0] 38) = w1 at *
  have a0 : w1.cell? ⟨w.heap.size, 0, none⟩ = some (.slice S n c) := Hk.out.cell 0
  have a1 : w1.cell? ⟨w.heap.size, 1, none⟩ = some (.slice C m d) := Hk.out.cell 1
  have c0 := Hz.out.cell 0
  have c1 := Hz.out.cell 1
  have f0 := Hz.out.frozen 0
  have f1 := Hz.out.frozen 1
  have hz4 := ((Hz.out.set_ 0 (.slice none 0 0)).set_ 1 (.slice (some ⟨w1.heap.size, 0, none⟩) 1 1)).alloc (.cells #[.slice S n c, .slice C m d] 30)
  have d0 := hz4.cell 0
  have d1 := hz4.cell 1
  simp at c0 c1 d0 d1
  have hzl : w.heap.size + 1 < w1.heap.size := Hz.out.lt
  have hb := Blk.new ((w1.setCell ⟨w.heap.size + 1, 0, none⟩ (.slice none 0 0)).setCell ⟨w.heap.size + 1, 1, none⟩ (.slice (some ⟨w1.heap.size, 0, none⟩) 1 1)) 30 #[.slice S n c, .slice C m d]
  simp only [World.size_setCell] at hb
  have hl := ((H01.out.set (p := ⟨w.heap.size + 1, 0, none⟩) (by simp) (.slice none 0 0)).set (p := ⟨w.heap.size + 1, 1, none⟩) (by simp) (.slice (some ⟨w1.heap.size, 0, none⟩) 1 1)).alloc (.cells #[.slice S n c, .slice C m d] 30)
  have Hz4 := Lib.hid hz4
  have Hb := Lib.hid hb
  have Hl := Lib.hid hl
  clear hz4 hb hl
  go_wp2_with fail
  refine bodyPost_ret (v := .tuple #[.agg #[.slice none 0 0, .slice (some ⟨w1.heap.size, 0, none⟩) 1 1], .int .i64 0]) (by simp [results, Tryz.results47, go_sem, d0, d1]) rfl ?_
  exact ⟨some ⟨w1.heap.size, 0, none⟩, 1, rfl, fun h => absurd rfl h, fun _ => ⟨rfl, w1.heap.size, rfl, by omega, Hb.out⟩, Hl.out⟩
 ·have e1 : (er != 0) = true := by simpa using he
  have He := Lib.hid he
  clear he
  have Hk := Lib.hid hk
  have Hz := Lib.hid hz
  have H01 := Lib.hid h01
  clear hk hz h01
  go_enter Tryz.func47, Tryz.ntmps47
  go_upto_region 1 with fail
  generalize (w.alloc (.cells #[.slice S n c, .slice C m d] 30)).alloc (.cells #[.slice none 0 0, .slice none 0 0] 38) = w1 at *
  have c0 := Hz.out.cell 0
  have c1 := Hz.out.cell 1
  have f0 := Hz.out.frozen 0
  have f1 := Hz.out.frozen 1
  have hz4 := (Hz.out.set_ 0 (.slice none 0 0)).set_ 1 (.slice none 0 0)
  have d0 := hz4.cell 0
  have d1 := hz4.cell 1
  simp at c0 c1 d0 d1
  have Hz4 := Lib.hid hz4
  clear hz4
  go_wp2_with fail
  refine bodyPost_ret (v := .tuple #[.agg #[.slice none 0 0, .slice none 0 0], .int .i64 er]) (by simp [results, Tryz.results47, go_sem, d0, d1]) rfl ?_
  exact ⟨none, 0, rfl, fun _ => ⟨rfl, rfl⟩, fun h => absurd h He.out, (H01.out.set (p := ⟨w.heap.size + 1, 0, none⟩) (by simp) _).set (p := ⟨w.heap.size + 1, 1, none⟩) (by simp) _⟩
theorem sg_gob {r : Ten × Int} {w0 w w' : World} {S C : Option Addr} {c d : Nat} {e : Ending} (h : SgP S C r.1.s.length c r.1.c.length d r.2 w e w') (hr : r.2 = 0 → TenO w0.heap.size w (.agg #[.slice S r.1.s.length c, .slice C r.1.c.length d]) r.1) (hb : Below w0.heap.size w0 w) : GoB (Ly.bsingle r) w0 e w' := by
 obtain ⟨X, k, rfl, h1, h2, h3⟩ := h
 have hl : Later w w' := h3
 have hbb : Below w0.heap.size w0 w' := hb.trans (h3.mono hb.size)
 by_cases he : r.2 = 0
 ·obtain ⟨rfl, p, rfl, hp, hk⟩ := h2 he
  have e1 : Ly.bsingle r = (⟨[], [r.1]⟩, 0) := by unfold Ly.bsingle; rw [if_pos he]
  rw [e1, he]
  exact ⟨.inr ⟨rfl, none, _, rfl, TnsO.nil _ _, TnsO.one hk (Nat.le_trans hb.size hp) ((hr he).later hl)⟩, hbb⟩
 ·obtain ⟨rfl, rfl⟩ := h1 he
  have e1 : Ly.bsingle r = (Ly.bnone, r.2) := by unfold Ly.bsingle; rw [if_neg he]
  rw [e1]
  exact ⟨.inl ⟨he, rfl⟩, hbb⟩
end Go.Proofs.YtbnnpkcfifejmaaGreat
