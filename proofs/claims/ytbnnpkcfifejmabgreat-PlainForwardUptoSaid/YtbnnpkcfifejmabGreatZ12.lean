/- Lemmas for the statements of this seat: contracts of functions and the plain laws. -/
import Derived.Deep.DeepCutAuto
import Derived.Test.YtbnnpkcfifejmabGreatZ11
set_option linter.unusedVariables false
namespace Go.Proofs.YtbnnpkcfifejmabGreat
open Go.RowKit
namespace Pn
def parts (n : NetD) (ps : List Ten) (id : Int) : List Ten := (ps.drop (from_ n.nodes (id.toNat - 1))).take ((Nt.node n.nodes id).p.length)
def step (n : NetD) (ps vals : List Ten) (id : Int) : Ten × Int := Ly.go (Nt.node n.nodes id).op (parts n ps id) (pickT vals (Nt.node n.nodes id).ins)
def fwd (n : NetD) (ps : List Ten) : List Ten → List Int → List Ten × Int
 | vals, [] => (vals, 0)
 | vals, id :: r => if (step n ps vals id).2 = 0 then fwd n ps (vals.set id.toNat (step n ps vals id).1) r else ([], (step n ps vals id).2)
def forward (n : NetD) (ps : List Ten) (x : Ten) : List Ten × Int :=
 if fits n ps x ≠ 0 then ([], fits n ps x) else fwd n ps (x :: List.replicate n.nodes.length Ly.none_) (Nt.sorted n.nodes)
theorem fits_ok {n : NetD} {ps : List Ten} {x : Ten} (h : fits n ps x = 0) : Nt.check n = 0 ∧ ps.length = (Nt.params n).length ∧ parOk ps (Nt.params n) (Nt.params n).length = true ∧ tenIs x n.inn = true := by
 unfold fits at h
 split at h
 ·rename_i hc; exact absurd h hc
 ·rename_i hc
  split at h
  ·simp at h
  ·rename_i hl
   split at h
   ·simp at h
   ·rename_i hp
    split at h
    ·rename_i hx; exact ⟨by omega, by omega, by simpa using hp, hx⟩
    ·simp at h
theorem go_bad {o : OpD} {p x : List Ten} (h : (Ly.go o p x).2 ≠ 0) : (Ly.go o p x).1 = Ly.none_ := by
 unfold Ly.go at h ⊢
 split at h
 ·rename_i hc
  rw [if_pos hc]
  exact Ly.lay_none (Od.right_kind (Ly.counts_ok hc).1).2 h
 ·rename_i hc; rw [if_neg hc]
theorem from_le {ns : List NodeD} {k : Nat} : from_ ns k ≤ (ns.flatMap (·.p)).length := by
 unfold from_
 have : ns.flatMap (·.p) = (ns.take k).flatMap (·.p) ++ (ns.drop k).flatMap (·.p) := by rw [← List.flatMap_append, List.take_append_drop]
 rw [this, List.length_append]
 omega
theorem tenIs_ok {t : Ten} {s : List Int} (h : tenIs t s = true) : Tn.right t = true ∧ t.s = s := by
 unfold tenIs at h
 rw [Bool.and_eq_true] at h
 exact ⟨h.1, by simpa using h.2⟩
end Pn
def RowO (B : Nat) (w : World) (vs : List Value) (ts : List Ten) : Prop :=
 vs.length = ts.length * 2 ∧ ∀ j (hj : j < ts.length), ∃ S c C d, vs[j * 2]? = some (.slice S ts[j].s.length c) ∧ vs[j * 2 + 1]? = some (.slice C ts[j].c.length d) ∧ TenO B w (.agg #[.slice S ts[j].s.length c, .slice C ts[j].c.length d]) ts[j]
theorem RowO.later {B : Nat} {w w' : World} {vs : List Value} {ts : List Ten} (h : RowO B w vs ts) (hl : Later w w') : RowO B w' vs ts :=
 ⟨h.1, fun j hj => by obtain ⟨S, c, C, d, e1, e2, e3⟩ := h.2 j hj; exact ⟨S, c, C, d, e1, e2, e3.later hl⟩⟩
theorem TenO.ten {B : Nat} {w : World} {S C : Option Addr} {c d : Nat} {t : Ten} (h : TenO B w (.agg #[.slice S t.s.length c, .slice C t.c.length d]) t) : TenIn w S C c d t := by
 obtain ⟨S', c', C', d', e, hT, -, -⟩ := h
 simp at e
 obtain ⟨⟨rfl, rfl⟩, rfl, rfl⟩ := e
 exact hT
theorem RowO.rowT {B : Nat} {w : World} {vs : List Value} {ts : List Ten} (h : RowO B w vs ts) : RowT w vs ts :=
 ⟨h.1, fun j hj => by obtain ⟨S, c, C, d, e1, e2, e3⟩ := h.2 j hj; exact ⟨S, c, C, d, e1, e2, e3.ten⟩⟩
theorem RowO.set {B : Nat} {w : World} {vs : List Value} {ts : List Ten} {S C : Option Addr} {c d k : Nat} {t : Ten} (h : RowO B w vs ts) (hk : k < ts.length) (ht : TenO B w (.agg #[.slice S t.s.length c, .slice C t.c.length d]) t) :
  RowO B w ((vs.set (k * 2) (.slice S t.s.length c)).set (k * 2 + 1) (.slice C t.c.length d)) (ts.set k t) := by
 have hl := h.1
 refine ⟨by simp [hl], fun j hj => ?_⟩
 rw [List.length_set] at hj
 by_cases e : j = k
 ·subst e
  refine ⟨S, c, C, d, ?_, ?_, ?_⟩
  ·rw [List.getElem?_set_ne (by omega), List.getElem?_set_self (by omega)]; simp
  ·rw [List.getElem?_set_self (by simp; omega)]; simp
  ·simpa using ht
 ·obtain ⟨S', c', C', d', e1, e2, e3⟩ := h.2 j hj
  have e4 : (ts.set k t)[j]'(by simpa using hj) = ts[j] := by rw [List.getElem_set_ne (fun q => e q.symm)]
  refine ⟨S', c', C', d', ?_, ?_, ?_⟩
  ·rw [e4, List.getElem?_set_ne (by omega), List.getElem?_set_ne (by omega)]; exact e1
  ·rw [e4, List.getElem?_set_ne (by omega), List.getElem?_set_ne (by omega)]; exact e2
  ·rw [e4]; exact e3
theorem teno_none (B : Nat) (w : World) : TenO B w (.agg #[.slice none Ly.none_.s.length 0, .slice none Ly.none_.c.length 0]) Ly.none_ :=
 ⟨none, 0, none, 0, rfl, ⟨⟨Ints.nil, Ints.nil⟩, Nat.le_refl _, by omega, Nat.le_refl _, by omega, by simp [Ly.none_], by simp [Ly.none_], by intro z hz; simp [Ly.none_] at hz⟩, fun a e => (by cases e), fun a e => (by cases e)⟩
theorem RowO.zeros (B : Nat) (w : World) (m : Nat) : RowO B w (List.replicate (m * 2) (Value.slice none 0 0)) (List.replicate m Ly.none_) := by
 refine ⟨by simp, fun j hj => ?_⟩
 rw [List.length_replicate] at hj
 refine ⟨none, 0, none, 0, ?_, ?_, ?_⟩
 ·rw [List.getElem?_replicate, if_pos (by omega)]; simp [Ly.none_]
 ·rw [List.getElem?_replicate, if_pos (by omega)]; simp [Ly.none_]
 ·rw [List.getElem_replicate]; exact teno_none B w
theorem RowO.tnsO {B G : Nat} {w : World} {vs : List Value} {ts : List Ten} {t : TypeId} (h : RowO B w vs ts) (hG : Blk w G t vs.toArray) (hB : B ≤ G) : TnsO B w (some ⟨G, 0, none⟩) ts := by
 refine ⟨fun a e => ?_, fun j hj => ?_⟩
 ·injection e with e; subst e; exact ⟨G, rfl, hB, hG.lt, fun k => hG.frozen k⟩
 ·obtain ⟨S, c, C, d, e1, e2, e3⟩ := h.2 j hj
  exact ⟨G, S, c, C, d, rfl, by rw [hG.cell]; simpa using e1, by rw [hG.cell]; simpa using e2, e3⟩
theorem Tns.part {w : World} {b off : Nat} {ts : List Ten} (h : Tns w (some ⟨b, off, none⟩) ts) (k m : Nat) : Tns w (some ⟨b, off + k * 2, none⟩) ((ts.drop k).take m) := fun j hj => by
 have hj2 : k + j < ts.length := by simp at hj; omega
 obtain ⟨b', off', S, c, C, d, e, hl, c0, c1, hT⟩ := h (k + j) hj2
 injection e with e
 injection e with e1 e2
 subst e1 e2
 have eg : ((ts.drop k).take m)[j] = ts[k + j] := by simp
 refine ⟨b, off + k * 2, S, c, C, d, rfl, hl, ?_, ?_, ?_⟩
 ·rw [eg, show off + k * 2 + j * 2 = off + (k + j) * 2 by omega]; exact c0
 ·rw [eg, show off + k * 2 + j * 2 + 1 = off + (k + j) * 2 + 1 by omega]; exact c1
 ·rw [eg]; exact hT
theorem TenO.far2 {B : Nat} {w : World} {S C : Option Addr} {c d p : Nat} {u u2 : Value} {t : Ten} (h : TenO B w (.agg #[.slice S t.s.length c, .slice C t.c.length d]) t) (hS : ∀ a, S = some a → a.block ≠ p) (hC : ∀ a, C = some a → a.block ≠ p) :
  TenO B ((w.setCell ⟨p, 0, none⟩ u).setCell ⟨p, 1, none⟩ u2) (.agg #[.slice S t.s.length c, .slice C t.c.length d]) t := by
 obtain ⟨S', c', C', d', e, hT, h1, h2⟩ := h
 simp at e
 obtain ⟨⟨rfl, rfl⟩, rfl, rfl⟩ := e
 have hi : ∀ {A : Option Addr} {l : List Int}, (∀ a, A = some a → a.block ≠ p) → Ints .i64 w A l → Ints .i64 ((w.setCell ⟨p, 0, none⟩ u).setCell ⟨p, 1, none⟩ u2) A l := fun {A l} hA hI j hj => by
  obtain ⟨b, off, e, hl, hc⟩ := hI j hj
  exact ⟨b, off, e, by simpa using hl, (cell_same_block (far_block (hA _ e) u u2) _).trans hc⟩
 refine ⟨S, c, C, d, rfl, { hT with r := ⟨hi hS hT.r.1, hi hC hT.r.2⟩ }, h1, fun a e => ?_⟩
 obtain ⟨k1, k2, k3⟩ := h2 a e
 exact ⟨k1, by simpa using k2, fun j => by rw [World.frozen?_setCell, World.frozen?_setCell]; exact k3 j⟩
theorem Ints.off {w : World} {A : Option Addr} {l : List Int} {p i k : Nat} {T : TypeId} {vs : List Value} (h : Ints .i64 w A l) (hz : Blk w p T vs.toArray) (hv : ∀ u ∈ vs, ∃ A n c, u = Value.slice A n c) (u u2 : Value) : Ints .i64 ((w.setCell ⟨p, i, none⟩ u).setCell ⟨p, k, none⟩ u2) A l := fun j hj => by
 obtain ⟨b, off, e, hl, hc⟩ := h j hj
 have hne : b ≠ p := by
  rintro rfl
  rw [hz.cell, List.getElem?_toArray] at hc
  obtain ⟨_, _, _, e2⟩ := hv _ (List.mem_of_getElem? hc)
  cases e2
 exact ⟨b, off, e, by simpa using hl, (cell_same_block ((Below.heap_setCell _ ⟨p, k, none⟩ u2 b hne).trans (Below.heap_setCell w ⟨p, i, none⟩ u b hne)) _).trans hc⟩
theorem TenO.off {B p i k : Nat} {w : World} {v : Value} {t : Ten} {T : TypeId} {vs : List Value} (h : TenO B w v t) (hz : Blk w p T vs.toArray) (hv : ∀ u ∈ vs, ∃ A n c, u = Value.slice A n c) (u u2 : Value) : TenO B ((w.setCell ⟨p, i, none⟩ u).setCell ⟨p, k, none⟩ u2) v t := by
 obtain ⟨S, c, C, d, h1, h2, h3, h4⟩ := h
 refine ⟨S, c, C, d, h1, { h2 with r := ⟨h2.r.1.off hz hv u u2, h2.r.2.off hz hv u u2⟩ }, h3, fun a e => ?_⟩
 obtain ⟨k1, k2, k3⟩ := h4 a e
 exact ⟨k1, by simpa using k2, fun j => by rw [World.frozen?_setCell, World.frozen?_setCell]; exact k3 j⟩
theorem RowO.off {B p i k : Nat} {w : World} {us : List Value} {ts : List Ten} {T : TypeId} {vs : List Value} (h : RowO B w us ts) (hz : Blk w p T vs.toArray) (hv : ∀ u ∈ vs, ∃ A n c, u = Value.slice A n c) (u u2 : Value) : RowO B ((w.setCell ⟨p, i, none⟩ u).setCell ⟨p, k, none⟩ u2) us ts :=
 ⟨h.1, fun j hj => by obtain ⟨S, c, C, d, e1, e2, e3⟩ := h.2 j hj; exact ⟨S, c, C, d, e1, e2, e3.off hz hv u u2⟩⟩
def FwdP (r : List Ten × Int) (w : World) (e : Ending) (w' : World) : Prop :=
 (r.2 ≠ 0 ∧ e = .returned (.tuple #[.slice none 0 0, .int .i64 r.2]) ∨ r.2 = 0 ∧ ∃ G, e = .returned (.tuple #[.slice (some ⟨G, 0, none⟩) r.1.length r.1.length, .int .i64 0]) ∧ TnsO w.heap.size w' (some ⟨G, 0, none⟩) r.1) ∧ Below w.heap.size w w'
theorem FwdP.fail {n : Int} {r : List Ten × Int} {w w' : World} (hr : r.2 = n) (hn : n ≠ 0) (hb : Below w.heap.size w w') : FwdP r w (.returned (.tuple #[.slice none 0 0, .int .i64 n])) w' := by
 subst hr; exact ⟨.inl ⟨hn, rfl⟩, hb⟩
def FwCut (w0 : World) (B : Nat) (R : Ten × Int) (a b : Value) (wx : World) : Prop :=
 ∃ S c C d tb, a = .pointer (some ⟨tb, 0, none⟩) ∧ b = .int .i64 R.2 ∧ Blk wx tb 30 #[.slice S R.1.s.length c, .slice C R.1.c.length d] ∧ (R.2 = 0 → TenO B wx (.agg #[.slice S R.1.s.length c, .slice C R.1.c.length d]) R.1) ∧ Later w0 wx
set_option maxHeartbeats 16000000 in
set_option maxRecDepth 20000 in
theorem plain_forward (A N P XS XC : Option Addr) (c d cp xc xd : Nat) (n : NetD) (ps : List Ten) (x : Ten) (w : World) (hok : n.ok) (hR : NetR w A N n) (hd : n.nodes.length ≤ d) (hP : Tns w P ps) (lP : ps.length ≤ 1048576) (kP : ps.length ≤ cp) (mP : cp ≤ 9223372036854775807) (nP : P = none → cp = 0) (hX : TenIn w XS XC xc xd x) :
  Calls Tryz.prog 7 #[.agg #[.slice A n.inn.length c, .slice N n.nodes.length d], .slice P ps.length cp, .agg #[.slice XS x.s.length xc, .slice XC x.c.length xd]] w (FwdP (Pn.forward n ps x) w) := by
 have hkn := (Blk.new w 26 #[.slice A n.inn.length c, .slice N n.nodes.length d]).alloc (.cells #[.slice XS x.s.length xc, .slice XC x.c.length xd] 30)
 have hkx := Blk.new (w.alloc (.cells #[.slice A n.inn.length c, .slice N n.nodes.length d] 26)) 30 #[.slice XS x.s.length xc, .slice XC x.c.length xd]
 rw [World.size_alloc] at hkx
 have h01 : Later w ((w.alloc (.cells #[.slice A n.inn.length c, .slice N n.nodes.length d] 26)).alloc (.cells #[.slice XS x.s.length xc, .slice XC x.c.length xd] 30)) := ((Later.refl w).alloc _).alloc _
 have Hok := Lib.hid hok
 have HR := Lib.hid hR
 have HP := Lib.hid hP
 have HX := Lib.hid hX
 have Hkn := Lib.hid hkn
 have Hkx := Lib.hid hkx
 have H01 := Lib.hid h01
 have HnP := Lib.hid nP
 clear hok hR hP hX hkn hkx h01 nP
 go_enter Tryz.func7, Tryz.ntmps7
 go_upto_region 1 with fail
 generalize (w.alloc (.cells #[.slice A n.inn.length c, .slice N n.nodes.length d] 26)).alloc (.cells #[.slice XS x.s.length xc, .slice XC x.c.length xd] 30) = w1 at *
 have a0 := Hkn.out.cell 0
 have a1 := Hkn.out.cell 1
 have b0 := Hkx.out.cell 0
 have b1 := Hkx.out.cell 1
 simp at a0 a1 b0 b1
 go_wp2_with fail
 refine (plain_fits A N P XS XC c d cp xc xd n ps x w1 Hok.out (HR.out.below H01.out (Nat.le_refl _)) hd (HP.out.later H01.out) lP (HX.out.later H01.out)).mono ?_
 rintro e w2 ⟨rfl, hb2⟩
 have h12 : Later w1 w2 := hb2
 have h02 := H01.out.trans h12
 have hk2 := h12.blk Hkn.out
 have hx2 := h12.blk Hkx.out
 clear hb2 a0 a1 b0 b1
 by_cases hf : Pn.fits n ps x = 0
 case neg =>
  have HE := Lib.hid (show (Pn.forward n ps x).2 = Pn.fits n ps x by unfold Pn.forward; rw [if_pos hf])
  have d2 : (Pn.fits n ps x != 0) = true := by simpa using hf
  have Hf := Lib.hid hf
  clear hf
  generalize Pn.fits n ps x = ge at *
  have H12 := Lib.hid h12
  have H02 := Lib.hid h02
  have Hk2 := Lib.hid hk2
  have Hx2 := Lib.hid hx2
  clear h12 h02 hk2 hx2
  go_wp2_with fail
  refine bodyPost_ret (v := .tuple #[.slice none 0 0, .int .i64 ge]) (by simp [results, Tryz.results7, go_sem]) rfl ?_
  exact FwdP.fail HE.out Hf.out H02.out
 have he : Pn.forward n ps x = Pn.fwd n ps (x :: List.replicate n.nodes.length Ly.none_) (Nt.sorted n.nodes) := by unfold Pn.forward; rw [if_neg (by omega)]
 obtain ⟨hc, hpl, -, hxi⟩ := Pn.fits_ok hf
 obtain ⟨n1, n5, -, hbad, hsl, -, -, -⟩ := Nt.check_ok hc
 obtain ⟨hxr, hxs⟩ := Pn.tenIs_ok hxi
 obtain ⟨x4, x6⟩ := Ly.right_ok hxr
 have hall := Nt.bads_all hbad
 rw [hf]
 clear hf hxi hxs hxr hbad
 have a0 := hk2.cell 0
 have a1 := hk2.cell 1
 simp at a0 a1
 have H12 := Lib.hid h12
 have H02 := Lib.hid h02
 have Hk2 := Lib.hid hk2
 have Hx2 := Lib.hid hx2
 have He := Lib.hid he
 have Hall := Lib.hid hall
 have Hpl := Lib.hid hpl
 have Hsl := Lib.hid hsl
 clear h12 h02 hk2 hx2 he hall hpl hsl
 go_wp2_with fail
 refine (net_order A N c d n w2 Hok.out (HR.out.below H02.out (Nat.le_refl _)) hd).mono ?_
 rintro e w3 ⟨hb3, ⟨-, O, oc, rfl, hO, hO1, hO2⟩ | ⟨hbad, -⟩⟩
 rotate_left
 ·exact absurd hc hbad
 have h23 : Later w2 w3 := hb3
 have h03 := H02.out.trans h23
 have hk3 := h23.blk Hk2.out
 have hx3 := h23.blk Hx2.out
 clear hb3 a0 a1 hc
 have a1 := hk3.cell 1
 simp at a1
 have q1 : IntKind.i64.wrap ((n.nodes.length : Int) + 1) = (n.nodes.length : Int) + 1 := IntWalk.i64_in _ (by omega)
 have hs3 := h03.size
 have H23 := Lib.hid h23
 have H03 := Lib.hid h03
 have Hk3 := Lib.hid hk3
 have Hx3 := Lib.hid hx3
 have HO := Lib.hid hO
 clear h23 h03 hk3 hx3 hO
 obtain ⟨i0, hi, hz0, hz1, hz2⟩ := info_parts tenY_info
 go_wp2_with (at_make; refine wpList_make_full _ rfl _ _ 27 rfl w.heap.size 30 i0 (.agg #[.slice none 0 0, .slice none 0 0]) 2 Tryz.underlying27 hi hz0 hz1 _ _ _ _ (n.nodes.length + 1) rfl rfl (by first | rfl | simp) (by first | rfl | simp) ?b2 ?b3 hs3 ?_)
 case b2 => rw [hz2]; omega
 case b3 => unfold maxLen; omega
 intro w4 hown hgrow
 clear hi hz0 hz1 hz2
 have hrow : Blk w4 w3.heap.size 30 (List.replicate ((n.nodes.length + 1) * 2) (Value.slice none 0 0)).toArray := by
  have h := row_blk hown
  rw [made_tens] at h
  exact h
 have h34 : Later w3 w4 := (Below.refl _ w3).grown hgrow (Nat.le_refl _) (by simp)
 clear hown hgrow a1
 have h04 := H03.out.trans h34
 have hk4 := h34.blk Hk3.out
 have hx4 := h34.blk Hx3.out
 have b0 := hx4.cell 0
 have b1 := hx4.cell 1
 simp at b0 b1
 have Hrow := Lib.hid hrow
 have H34 := Lib.hid h34
 have H04 := Lib.hid h04
 have Hk4 := Lib.hid hk4
 have Hx4 := Lib.hid hx4
 clear hrow h34 h04 hk4 hx4
 go_wp2_with fail
 refine (tensor_copy XS XC xc xd x w4 (by omega) (by omega) (HX.out.later H04.out).r).mono ?_
 rintro e w5 ⟨v, rfl, hN, hb5⟩
 have h45 : Later w4 w5 := hb5
 have hxo := hN.o (B := w4.heap.size) (by omega) (by omega) HX.out.num
 obtain ⟨gx, hx, rfl, -, -, -, -⟩ := hN
 have hrow5 := h45.blk Hrow.out
 have r0 := hrow5.cell 0
 have r1 := hrow5.cell 1
 have f0 := hrow5.frozen 0
 have f1 := hrow5.frozen 1
 have e0 : w5.cell? ⟨w3.heap.size, 0, none⟩ = some (.slice none 0 0) := by rw [r0, List.getElem?_toArray, List.getElem?_replicate, if_pos (by omega)]
 have e1 : w5.cell? ⟨w3.heap.size, 1, none⟩ = some (.slice none 0 0) := by rw [r1, List.getElem?_toArray, List.getElem?_replicate, if_pos (by omega)]
 have hws4 : w.heap.size ≤ w4.heap.size := H04.out.size
 have hrlt : w3.heap.size < w4.heap.size := Hrow.out.lt
 have hxo5 : TenO w.heap.size w5 (.agg #[.slice (some ⟨gx, 0, none⟩) x.s.length x.s.length, .slice (some ⟨hx, 0, none⟩) x.c.length x.c.length]) x := hxo.base hws4
 have hgx : gx ≠ w3.heap.size := by
  obtain ⟨S', c', C', d', e, -, h1, -⟩ := hxo
  simp at e
  have := h1 _ e.1.1.symm
  simp at this
  omega
 have hhx : hx ≠ w3.heap.size := by
  obtain ⟨S', c', C', d', e, -, -, h1⟩ := hxo
  simp at e
  have := (h1 _ e.2.1.symm).1
  simp at this
  omega
 clear hb5 r0 r1 b0 b1 hxo
 have hrow6 := (hrow5.set_ 0 (.slice (some ⟨gx, 0, none⟩) x.s.length x.s.length)).set_ 1 (.slice (some ⟨hx, 0, none⟩) x.c.length x.c.length)
 have H45 := Lib.hid h45
 have Hrow5 := Lib.hid hrow5
 have Hxo5 := Lib.hid hxo5
 have Hrow6 := Lib.hid hrow6
 clear h45 hrow5 hxo5 hrow6
 go_wp2_with fail
 have hwv : (w5.setCell ⟨w3.heap.size, 0, none⟩ (.slice (some ⟨gx, 0, none⟩) x.s.length x.s.length)).setCell ⟨w3.heap.size, 1, none⟩ (.slice (some ⟨hx, 0, none⟩) x.c.length x.c.length) = (w5.setCell ⟨w3.heap.size, 0, none⟩ (.slice (some ⟨gx, 0, none⟩) x.s.length x.s.length)).setCell ⟨w3.heap.size, 1, none⟩ (.slice (some ⟨hx, 0, none⟩) x.c.length x.c.length) := rfl
 have hxo6 : TenO w.heap.size ((w5.setCell ⟨w3.heap.size, 0, none⟩ (.slice (some ⟨gx, 0, none⟩) x.s.length x.s.length)).setCell ⟨w3.heap.size, 1, none⟩ (.slice (some ⟨hx, 0, none⟩) x.c.length x.c.length)) (.agg #[.slice (some ⟨gx, 0, none⟩) x.s.length x.s.length, .slice (some ⟨hx, 0, none⟩) x.c.length x.c.length]) x := by
  refine TenO.far2 Hxo5.out (fun a e => ?_) (fun a e => ?_)
  ·injection e with e; subst e; exact hgx
  ·injection e with e; subst e; exact hhx
 have h36 : Later w3 ((w5.setCell ⟨w3.heap.size, 0, none⟩ (.slice (some ⟨gx, 0, none⟩) x.s.length x.s.length)).setCell ⟨w3.heap.size, 1, none⟩ (.slice (some ⟨hx, 0, none⟩) x.c.length x.c.length)) := ((H34.out.trans H45.out).set (p := ⟨w3.heap.size, 0, none⟩) (Nat.le_refl _) _).set (p := ⟨w3.heap.size, 1, none⟩) (Nat.le_refl _) _
 have hrw : RowO w.heap.size ((w5.setCell ⟨w3.heap.size, 0, none⟩ (.slice (some ⟨gx, 0, none⟩) x.s.length x.s.length)).setCell ⟨w3.heap.size, 1, none⟩ (.slice (some ⟨hx, 0, none⟩) x.c.length x.c.length)) (((List.replicate ((n.nodes.length + 1) * 2) (Value.slice none 0 0)).set (0 * 2) (.slice (some ⟨gx, 0, none⟩) x.s.length x.s.length)).set (0 * 2 + 1) (.slice (some ⟨hx, 0, none⟩) x.c.length x.c.length)) (x :: List.replicate n.nodes.length Ly.none_) := by
  have := (RowO.zeros w.heap.size ((w5.setCell ⟨w3.heap.size, 0, none⟩ (.slice (some ⟨gx, 0, none⟩) x.s.length x.s.length)).setCell ⟨w3.heap.size, 1, none⟩ (.slice (some ⟨hx, 0, none⟩) x.c.length x.c.length)) (n.nodes.length + 1)).set (k := 0) (by simp) hxo6
  rwa [List.replicate_succ, List.set_cons_zero] at this
 have hbk : Blk ((w5.setCell ⟨w3.heap.size, 0, none⟩ (.slice (some ⟨gx, 0, none⟩) x.s.length x.s.length)).setCell ⟨w3.heap.size, 1, none⟩ (.slice (some ⟨hx, 0, none⟩) x.c.length x.c.length)) w3.heap.size 30 (((List.replicate ((n.nodes.length + 1) * 2) (Value.slice none 0 0)).set (0 * 2) (.slice (some ⟨gx, 0, none⟩) x.s.length x.s.length)).set (0 * 2 + 1) (.slice (some ⟨hx, 0, none⟩) x.c.length x.c.length)).toArray := by
  have := Hrow6.out
  rw [List.setIfInBounds_toArray, List.setIfInBounds_toArray] at this
  exact this
 clear hwv Hrow6 Hrow5 Hxo5 hxo6 H45 H34 H04 Hrow
 have Hrw := Lib.hid hrw
 have Hbk := Lib.hid hbk
 have H36 := Lib.hid h36
 clear hrw hbk h36
 generalize (w5.setCell ⟨w3.heap.size, 0, none⟩ (.slice (some ⟨gx, 0, none⟩) x.s.length x.s.length)).setCell ⟨w3.heap.size, 1, none⟩ (.slice (some ⟨hx, 0, none⟩) x.c.length x.c.length) = w6 at *
 go_loopw [45] (fun i wx => ∃ (k : Nat) (vs : List Value) (vals : List Ten), k ≤ n.nodes.length ∧ i = .int .i64 (k : Int) ∧ Blk wx w3.heap.size 30 vs.toArray ∧ RowO w.heap.size wx vs vals ∧ vals.length = n.nodes.length + 1 ∧ Later w3 wx ∧ Pn.forward n ps x = Pn.fwd n ps vals ((Nt.sorted n.nodes).drop k)) (fun i _ => n.nodes.length - (intOf i).toNat)
 case atStart => exact ⟨0, _, _, Nat.zero_le _, rfl, Hbk.out, Hrw.out, by simp, H36.out, He.out⟩
 case round =>
  obtain ⟨k, vs, vals, hk, rfl, hG, hvs, hvl, hlx, hfw⟩ := hrel
  clear Hbk Hrw H36
  by_cases hlt : k < n.nodes.length
  ·have hks : k < (Nt.sorted n.nodes).length := by rw [Hsl.out]; exact hlt
   obtain ⟨bo, oo, rfl, -, hco⟩ := (HO.out.below hlx (Nat.le_refl _)) k hks
   have hids := Kn.order_rng (Nt.insF n.nodes) n.nodes.length _ (List.getElem_mem hks)
   have hgd : (Nt.sorted n.nodes).getD k 0 = (Nt.sorted n.nodes)[k] := by rw [List.getD_eq_getElem?_getD, List.getElem?_eq_getElem hks]; rfl
   rw [hgd] at hco
   rw [List.drop_eq_getElem_cons hks] at hfw
   have hids' : 1 ≤ (Nt.sorted n.nodes)[k] ∧ (Nt.sorted n.nodes)[k] ≤ n.nodes.length := hids
   clear hids hgd
   obtain ⟨j, hj⟩ : ∃ j : Nat, (Nt.sorted n.nodes)[k] = (j : Int) + 1 := ⟨((Nt.sorted n.nodes)[k] - 1).toNat, by omega⟩
   rw [hj] at hco hfw hids'
   have hjl : j < n.nodes.length := by omega
   clear hj
   obtain ⟨b, off, S, sc, J, ic, Q, qc, rfl, hNA, hs1, hs2, hs3'⟩ := HR.out.2.at_ hjl
   have hnd := Nt.node_at hjl
   have hvok := Hok.out.2.2 _ (List.getElem_mem hjl)
   have hvin := (Hall.out _ (List.getElem_mem hjl)).2
   have hfj := Pn.from_succ hjl
   have hfle : Pn.from_ n.nodes (j + 1) ≤ ps.length := by rw [Hpl.out]; exact Pn.from_le
   have hst : Pn.step n ps vals ((j : Int) + 1) = Ly.go n.nodes[j].op ((ps.drop (Pn.from_ n.nodes j)).take n.nodes[j].p.length) (Pn.pickT vals n.nodes[j].ins) := by
    unfold Pn.step Pn.parts
    rw [hnd, show ((j : Int) + 1).toNat - 1 = j by omega]
   have hpt : Pn.part n ((j : Int) + 1) = ((Pn.from_ n.nodes j : Int), (Pn.from_ n.nodes (j + 1) : Int)) := by
    unfold Pn.part
    rw [if_neg (by omega), show ((j : Int) + 1).toNat = j + 1 by omega]
    rfl
   rw [hfj] at hpt hfle
   clear hfj hnd
   generalize n.nodes[j] = v at *
   generalize Pn.from_ n.nodes j = fr at *
   have hlw := H03.out.trans hlx
   have hNr := hNA.below hlw
   obtain ⟨⟨y0, y1, y2, y3, y4, y5, y6, y7, y8, y9⟩, hIs, hIi, hIp⟩ := hNr
   have a0 := (hlx.blk Hk3.out).cell 0
   have a1 := (hlx.blk Hk3.out).cell 1
   simp at a0 a1
   have g1 : (k : Int) < (n.nodes.length : Int) := by omega
   have g2 : (j : Int) < (n.nodes.length : Int) := by omega
   have g3 : IntKind.i64.wrap ((j : Int) + 1 - 1) = (j : Int) := by rw [show (j : Int) + 1 - 1 = (j : Int) by omega]; exact IntWalk.i64_in _ (by omega)
   have g4 : (j : Int) + 1 - 1 = (j : Int) := by omega
   have g5 : IntKind.i64.wrap (j : Int) = (j : Int) := IntWalk.i64_in _ (by omega)
   have hlb := hlx.alloc (.cells #[.int .i64 v.op.kind, .int .i64 v.op.k, .int .i64 v.op.width, .int .i64 v.op.step, .int .i64 v.op.side, .int .i64 v.op.frm, .int .i64 v.op.to, .slice S v.op.s.length sc, .slice J v.ins.length ic, .slice Q v.p.length qc] 47)
   have hLrb := (Later.refl wr).alloc (.cells #[.int .i64 v.op.kind, .int .i64 v.op.k, .int .i64 v.op.width, .int .i64 v.op.step, .int .i64 v.op.side, .int .i64 v.op.frm, .int .i64 v.op.to, .slice S v.op.s.length sc, .slice J v.ins.length ic, .slice Q v.p.length qc] 47)
   have hbx := Blk.new wr 47 #[.int .i64 v.op.kind, .int .i64 v.op.k, .int .i64 v.op.width, .int .i64 v.op.step, .int .i64 v.op.side, .int .i64 v.op.frm, .int .i64 v.op.to, .slice S v.op.s.length sc, .slice J v.ins.length ic, .slice Q v.p.length qc]
   have hGb := hG.alloc (.cells #[.int .i64 v.op.kind, .int .i64 v.op.k, .int .i64 v.op.width, .int .i64 v.op.step, .int .i64 v.op.side, .int .i64 v.op.frm, .int .i64 v.op.to, .slice S v.op.s.length sc, .slice J v.ins.length ic, .slice Q v.p.length qc] 47)
   have HG := Lib.hid hG
   have Hvs := Lib.hid hvs
   have Hvl := Lib.hid hvl
   have Hlx := Lib.hid hlx
   have Hfw := Lib.hid hfw
   have HNA := Lib.hid hNA
   have Hvok := Lib.hid hvok
   have Hvin := Lib.hid hvin
   have Hst := Lib.hid hst
   have Hpt := Lib.hid hpt
   have Hlw := Lib.hid hlw
   have HIs := Lib.hid hIs
   have HIi := Lib.hid hIi
   have HIp := Lib.hid hIp
   have Hlb := Lib.hid hlb
   have Hbx := Lib.hid hbx
   have HGb := Lib.hid hGb
   have HLrb := Lib.hid hLrb
   clear hG hvs hvl hlx hfw hNA hvok hvin hst hpt hlw hIs hIi hIp hlb hbx hGb hLrb
   clear hids'
   go_upto_region 13 with fail
   generalize hwb : wr.alloc (.cells #[.int .i64 v.op.kind, .int .i64 v.op.k, .int .i64 v.op.width, .int .i64 v.op.step, .int .i64 v.op.side, .int .i64 v.op.frm, .int .i64 v.op.to, .slice S v.op.s.length sc, .slice J v.ins.length ic, .slice Q v.p.length qc] 47) = wb at *
   have a0b := (Hlb.out.blk Hk3.out).cell 0
   have a1b := (Hlb.out.blk Hk3.out).cell 1
   simp at a0b a1b
   have hNb := HR.out.below (H03.out.trans Hlb.out) (Nat.le_refl _)
   clear hwb a0 a1 y0 y1 y2 y3 y4 y5 y6 y7 y8 y9 g1 g3 g4 g5 hco
   have HNb := Lib.hid hNb
   clear hNb
   go_wp2_with fail
   refine (plain_part A (some ⟨b, off, none⟩) c d n ((j : Int) + 1) wb Hok.out HNb.out hd (by omega) (by omega)).mono ?_
   rintro e wp ⟨rfl, hbp⟩
   rw [Hpt.out]
   have h1p : Later wb wp := hbp
   have hrb : Later wr wb := HLrb.out
   have hrp := hrb.trans h1p
   have hwp := Hlw.out.trans hrp
   have hboxp := h1p.blk Hbx.out
   have hGp := hrp.blk HG.out
   have hTp := Hvs.out.rowT.tnsB hrp hGp
   have hvl := Hvl.out
   have hins : ∀ i ∈ v.ins, 0 ≤ i ∧ i < vals.length := fun i hi => by
    have := Hvin.out i hi
    rw [hvl]
    omega
   obtain ⟨vo1, vo2, vo3, vo4, -, -⟩ := Hvok.out
   have hpick := fun (W : World) (h : Later wp W) => plain_pick (some ⟨w3.heap.size, 0, none⟩) J (n.nodes.length + 1) ic vals v.ins W (hTp.later h) (by omega) (HIi.out.below (hrp.trans h) (Nat.le_refl _)) vo3 hins
   rw [hvl] at hpick
   have hsub : ((ps.drop fr).take v.p.length).length = v.p.length := by simp; omega
   have hxl : (Pn.pickT vals v.ins).length = v.ins.length := by simp [Pn.pickT]
   have hgo := fun (W : World) (h : Later wp W) (PP K : Option Addr) (pc : Nat) (hPP : Tns W PP ((ps.drop fr).take v.p.length)) (hK : Tns W K (Pn.pickT vals v.ins)) => calls_goU (op_go v.op S PP K sc pc (Pn.pickT vals v.ins).length ((ps.drop fr).take v.p.length) (Pn.pickT vals v.ins) W vo2 (HIs.out.below (hrp.trans h) (Nat.le_refl _)) (vo1 _ (by simp)) hPP hK (by rw [hxl]; exact vo3) (Nat.le_refl _) (by rw [hxl]; omega)) Pn.go_bad
   rw [← Hst.out, hsub] at hgo
   have x0 := hboxp.cell 0
   have x1 := hboxp.cell 1
   have x2 := hboxp.cell 2
   have x3 := hboxp.cell 3
   have x4 := hboxp.cell 4
   have x5 := hboxp.cell 5
   have x6 := hboxp.cell 6
   have x7 := hboxp.cell 7
   have x8 := hboxp.cell 8
   simp at x0 x1 x2 x3 x4 x5 x6 x7 x8
   have hfw2 : Pn.forward n ps x = if (Pn.step n ps vals ((j : Int) + 1)).2 = 0 then Pn.fwd n ps (vals.set (j + 1) (Pn.step n ps vals ((j : Int) + 1)).1) ((Nt.sorted n.nodes).drop (k + 1)) else ([], (Pn.step n ps vals ((j : Int) + 1)).2) := by
    have := Hfw.out
    rw [Pn.fwd, show ((j : Int) + 1).toNat = j + 1 by omega] at this
    exact this
   generalize Pn.step n ps vals ((j : Int) + 1) = R at *
   have hwsp := hwp.size
   clear hbp hins hTp a0b a1b
   have u1 : (fr : Int) ≤ (fr : Int) + (v.p.length : Int) := by omega
   have u2 : (fr : Int) + (v.p.length : Int) ≤ (cp : Int) := by omega
   have u6 : ((fr : Int) + (v.p.length : Int)).toNat - fr = v.p.length := by omega
   have hwr : wr.heap.size < wp.heap.size := hboxp.lt
   have Hboxp := Lib.hid hboxp
   have HGp := Lib.hid hGp
   have Hrb := Lib.hid hrb
   have Hrp := Lib.hid hrp
   have Hwp := Lib.hid hwp
   have Hpick := Lib.hid hpick
   have Hgo := Lib.hid hgo
   have Hsub := Lib.hid hsub
   have Hxl := Lib.hid hxl
   have H1p := Lib.hid h1p
   have Hfw2 := Lib.hid hfw2
   clear hboxp hGp hrb hrp hwp hpick hgo hsub hxl h1p hfw2
   go_upto_region 14 with fail
   go_cut [17, 18] (FwCut wp w.heap.size R)
   case first =>
    by_cases hm : v.p.length = 0
    ·have hsub0 : (ps.drop fr).take v.p.length = [] := by rw [hm, List.take_zero]
     have u8 : fr ≤ cp := by omega
     have hcl := fun (W : World) (h : Later wp W) (V : World) (Kp : Nat) (hK : Tns V (some ⟨Kp, 0, none⟩) (Pn.pickT vals v.ins)) (hV : Later V W) (PP : Option Addr) (pc : Nat) => Hgo.out W h PP (some ⟨Kp, 0, none⟩) pc (by rw [hsub0]; exact Tns.nil _ _) (hK.later hV)
     have Hsub0 := Lib.hid hsub0
     have Hm := Lib.hid hm
     have Hcl := Lib.hid hcl
     clear hsub0 hm hcl
     cases P with
     | none =>
      have u9 : (cp = fr) = True := eq_true (by have := HnP.out rfl; omega)
      go_wp2_with fail
      have KF := Lib.hid (show ∀ Xw, Later wp Xw → Xw.cell? ⟨wr.heap.size, 0, none⟩ = some (.int .i64 v.op.kind) ∧ Xw.cell? ⟨wr.heap.size, 1, none⟩ = some (.int .i64 v.op.k) ∧ Xw.cell? ⟨wr.heap.size, 2, none⟩ = some (.int .i64 v.op.width) ∧ Xw.cell? ⟨wr.heap.size, 3, none⟩ = some (.int .i64 v.op.step) ∧ Xw.cell? ⟨wr.heap.size, 4, none⟩ = some (.int .i64 v.op.side) ∧ Xw.cell? ⟨wr.heap.size, 5, none⟩ = some (.int .i64 v.op.frm) ∧ Xw.cell? ⟨wr.heap.size, 6, none⟩ = some (.int .i64 v.op.to) ∧ Xw.cell? ⟨wr.heap.size, 7, none⟩ = some (.slice S v.op.s.length sc) ∧ Xw.cell? ⟨wr.heap.size, 8, none⟩ = some (.slice J v.ins.length ic) from fun Xw h => ⟨h.cell x0, h.cell x1, h.cell x2, h.cell x3, h.cell x4, h.cell x5, h.cell x6, h.cell x7, h.cell x8⟩)
      refine wp_region_noPanic ?_
      refine wp_region_held_drew (S := fun Xw => Xw.cell? ⟨wr.heap.size, 0, none⟩ = some (.int .i64 v.op.kind) ∧ Xw.cell? ⟨wr.heap.size, 1, none⟩ = some (.int .i64 v.op.k) ∧ Xw.cell? ⟨wr.heap.size, 2, none⟩ = some (.int .i64 v.op.width) ∧ Xw.cell? ⟨wr.heap.size, 3, none⟩ = some (.int .i64 v.op.step) ∧ Xw.cell? ⟨wr.heap.size, 4, none⟩ = some (.int .i64 v.op.side) ∧ Xw.cell? ⟨wr.heap.size, 5, none⟩ = some (.int .i64 v.op.frm) ∧ Xw.cell? ⟨wr.heap.size, 6, none⟩ = some (.int .i64 v.op.to) ∧ Xw.cell? ⟨wr.heap.size, 7, none⟩ = some (.slice S v.op.s.length sc) ∧ Xw.cell? ⟨wr.heap.size, 8, none⟩ = some (.slice J v.ins.length ic)) (by kernel_rfl) (KF.out _ Later.au) (fun hHeld => ?_)
      refine tk 0 ?_
      refine tk 1 ?_
      refine tk 2 ?_
      refine tk 3 ?_
      refine tk 4 ?_
      refine tk 5 ?_
      refine tk 6 ?_
      refine tk 7 ?_
      refine tk 8 ?_
      refine wpAnyH_ready (rs := [9, 14]) (by kernel_rfl) (by simp) ?_
      refine AllReadyH.cons (o := _) rfl (fun K hK => ?_) (AllReadyH.cons (o := _) rfl (fun K hK => ?_) (AllReadyH.nil))
      ·simp only [ga, gs, gz]
       go_simp
       go_at_call 23; (with_reducible refine (Hpick.out _ (Later.au : Later wp _)).mono ?_); rintro e wk ⟨Kp, rfl, -, hKp, hbk⟩
       have HKp := Lib.hid hKp
       clear hKp
       have hLk : Later wp wk := (Later.au : Later wp wk)
       have HLk := Lib.hid hLk
       clear hLk
       try go_wp2_with fail
       refine hK.out _ _ (KF.out _ Later.au) (fun hHeld => ?_)
       clear hK K
       try simp only [ga, gs, gz, Act.put, sa, sz, ss]
       refine wpAnyH_ready (rs := [10, 14]) (by kernel_rfl) (by simp) ?_
       refine AllReadyH.cons (o := _) rfl (fun K hK => ?_) (AllReadyH.cons (o := _) rfl (fun K hK => ?_) (AllReadyH.nil))
       ·simp only [ga, gs, gz]
        go_simp
        go_at_call 11; (with_reducible refine (Hcl.out _ (Later.au : Later wp _) wk Kp HKp.out (Later.au : Later wk _) _ _).mono ?_); rintro e wg ⟨S3, c3, C3, d3, rfl, hne, hof, hbg⟩
        have Hof := Lib.hid hof
        clear hof hne
        have hwk := HLk.out.size
        try go_wp2_with fail
        refine hK.out _ _ (KF.out _ Later.au) (fun hHeld => ?_)
        clear hK K
        try simp only [ga, gs, gz, Act.put, sa, sz, ss]
        refine tk 11 ?_
        refine tk 12 ?_
        refine tk 13 ?_
        refine rd 14 fun K hK => ?_
        simp only [ga, gs, gz]
        go_simp
        refine hK.out _ _ (KF.out _ Later.au) (fun hHeld => ?_)
        clear hK K
        try simp only [ga, gs, gz, Act.put, sa, sz, ss]
        refine rd 15 fun K hK => ?_
        simp only [ga, gs, gz]
        go_simp
        refine hK.out _ _ ?_ (fun hHeld => ?_)
        ·(try dsimp only); (refine ⟨?_, ?_, ?_, ?_, ?_, ?_, ?_, ?_, ?_⟩ <;> (repeat (refine cell_setfar ?_ (by first | omega | (simp; done) | (simp; omega)))) <;> (refine Later.cell (Later.au : Later wp _) ?_) <;> assumption)
        clear hK K
        try simp only [ga, gs, gz, Act.put, sa, sz, ss]
        refine tk 16 ?_
        clear KF
        refine wpAnyH_done (by kernel_rfl) ?_ _
        refine NoPanic.normal ?_
        go_wp2_with fail
        have hlg : Later wp wg := (Later.au : Later wp wg)
        go_meet
        exact ⟨S3, c3, C3, d3, wg.heap.size, rfl, rfl, Blk.new wg _ _, fun h => ((Hof.out h).base (by omega)).later ((Later.refl wg).alloc _), hlg.alloc _⟩
       ·simp only [ga, gs, gz]
        go_simp
        refine hK.out _ _ (KF.out _ Later.au) (fun hHeld => ?_)
        clear hK K
        try simp only [ga, gs, gz, Act.put, sa, sz, ss]
        refine rd 10 fun K hK => ?_
        simp only [ga, gs, gz]
        go_simp
        go_at_call 11; (with_reducible refine (Hcl.out _ (Later.au : Later wp _) wk Kp HKp.out (Later.au : Later wk _) _ _).mono ?_); rintro e wg ⟨S3, c3, C3, d3, rfl, hne, hof, hbg⟩
        have Hof := Lib.hid hof
        clear hof hne
        have hwk := HLk.out.size
        have hbz := (show Later (wk.alloc (.cells #[.slice none 0 0, .slice none 0 0] 30)) wg from hbg).blk (Blk.new wk _ _)
        have b0' := hbz.cell 0
        have b1' := hbz.cell 1
        have bf0 := hbz.frozen 0
        have bf1 := hbz.frozen 1
        simp at b0' b1'
        have Hbz := Lib.hid hbz
        clear hbz
        try go_wp2_with fail
        refine hK.out _ _ (KF.out _ Later.au) (fun hHeld => ?_)
        clear hK K
        try simp only [ga, gs, gz, Act.put, sa, sz, ss]
        refine tk 11 ?_
        refine tk 12 ?_
        refine tk 13 ?_
        refine rd 15 fun K hK => ?_
        simp only [ga, gs, gz]
        go_simp
        refine hK.out _ _ ?_ (fun hHeld => ?_)
        ·(try dsimp only); (refine ⟨?_, ?_, ?_, ?_, ?_, ?_, ?_, ?_, ?_⟩ <;> (repeat (refine cell_setfar ?_ (by first | omega | (simp; done) | (simp; omega)))) <;> (refine Later.cell (Later.au : Later wp _) ?_) <;> assumption)
        clear hK K
        try simp only [ga, gs, gz, Act.put, sa, sz, ss]
        refine tk 16 ?_
        clear KF
        refine wpAnyH_done (by kernel_rfl) ?_ _
        refine NoPanic.normal ?_
        go_wp2_with fail
        have hlg : Later wp wg := (Later.au : Later wp wg)
        have hb5 := (Hbz.out.set_ 0 (.slice S3 R.1.s.length c3)).set_ 1 (.slice C3 R.1.c.length d3)
        go_meet
        exact ⟨S3, c3, C3, d3, wk.heap.size, rfl, rfl, (by simpa using hb5), fun h => ((Hof.out h).base (by first | omega | (simp; omega))).box Hbz.out, (hlg.set (p := ⟨wk.heap.size, 0, none⟩) (by first | omega | (simp; done) | (simp; omega)) _).set (p := ⟨wk.heap.size, 1, none⟩) (by first | omega | (simp; done) | (simp; omega)) _⟩
      ·simp only [ga, gs, gz]
       go_simp
       refine hK.out _ _ (KF.out _ Later.au) (fun hHeld => ?_)
       clear hK K
       try simp only [ga, gs, gz, Act.put, sa, sz, ss]
       refine rd 9 fun K hK => ?_
       simp only [ga, gs, gz]
       go_simp
       go_at_call 23; (with_reducible refine (Hpick.out _ (Later.au : Later wp _)).mono ?_); rintro e wk ⟨Kp, rfl, -, hKp, hbk⟩
       have HKp := Lib.hid hKp
       clear hKp
       have hLk : Later wp wk := (Later.au : Later wp wk)
       have HLk := Lib.hid hLk
       clear hLk
       try go_wp2_with fail
       refine hK.out _ _ (KF.out _ Later.au) (fun hHeld => ?_)
       clear hK K
       try simp only [ga, gs, gz, Act.put, sa, sz, ss]
       refine rd 10 fun K hK => ?_
       simp only [ga, gs, gz]
       go_simp
       go_at_call 11; (with_reducible refine (Hcl.out _ (Later.au : Later wp _) wk Kp HKp.out (Later.au : Later wk _) _ _).mono ?_); rintro e wg ⟨S3, c3, C3, d3, rfl, hne, hof, hbg⟩
       have Hof := Lib.hid hof
       clear hof hne
       have hwk := HLk.out.size
       have hbz := (show Later wk wg from hbg).blk ((show Later _ wk from hbk).blk ((Blk.new wp 30 #[.slice none 0 0, .slice none 0 0]).drew))
       have b0' := hbz.cell 0
       have b1' := hbz.cell 1
       have bf0 := hbz.frozen 0
       have bf1 := hbz.frozen 1
       simp at b0' b1'
       have Hbz := Lib.hid hbz
       clear hbz
       try go_wp2_with fail
       refine hK.out _ _ (KF.out _ Later.au) (fun hHeld => ?_)
       clear hK K
       try simp only [ga, gs, gz, Act.put, sa, sz, ss]
       refine tk 11 ?_
       refine tk 12 ?_
       refine tk 13 ?_
       refine rd 15 fun K hK => ?_
       simp only [ga, gs, gz]
       go_simp
       refine hK.out _ _ ?_ (fun hHeld => ?_)
       ·(try dsimp only); (refine ⟨?_, ?_, ?_, ?_, ?_, ?_, ?_, ?_, ?_⟩ <;> (repeat (refine cell_setfar ?_ (by first | omega | (simp; done) | (simp; omega)))) <;> (refine Later.cell (Later.au : Later wp _) ?_) <;> assumption)
       clear hK K
       try simp only [ga, gs, gz, Act.put, sa, sz, ss]
       refine tk 16 ?_
       clear KF
       refine wpAnyH_done (by kernel_rfl) ?_ _
       refine NoPanic.normal ?_
       go_wp2_with fail
       have hlg : Later wp wg := (Later.au : Later wp wg)
       have hb5 := (Hbz.out.set_ 0 (.slice S3 R.1.s.length c3)).set_ 1 (.slice C3 R.1.c.length d3)
       go_meet
       exact ⟨S3, c3, C3, d3, wp.heap.size, rfl, rfl, (by simpa using hb5), fun h => ((Hof.out h).base (by first | omega | (simp; omega))).box Hbz.out, (hlg.set (p := ⟨wp.heap.size, 0, none⟩) (by first | omega | (simp; done) | (simp; omega)) _).set (p := ⟨wp.heap.size, 1, none⟩) (by first | omega | (simp; done) | (simp; omega)) _⟩
     | some a =>
      by_cases hfc : fr < cp
      ·have u9 : (cp = fr) = False := eq_false (by omega)
       go_wp2_with fail
       have KF := Lib.hid (show ∀ Xw, Later wp Xw → Xw.cell? ⟨wr.heap.size, 0, none⟩ = some (.int .i64 v.op.kind) ∧ Xw.cell? ⟨wr.heap.size, 1, none⟩ = some (.int .i64 v.op.k) ∧ Xw.cell? ⟨wr.heap.size, 2, none⟩ = some (.int .i64 v.op.width) ∧ Xw.cell? ⟨wr.heap.size, 3, none⟩ = some (.int .i64 v.op.step) ∧ Xw.cell? ⟨wr.heap.size, 4, none⟩ = some (.int .i64 v.op.side) ∧ Xw.cell? ⟨wr.heap.size, 5, none⟩ = some (.int .i64 v.op.frm) ∧ Xw.cell? ⟨wr.heap.size, 6, none⟩ = some (.int .i64 v.op.to) ∧ Xw.cell? ⟨wr.heap.size, 7, none⟩ = some (.slice S v.op.s.length sc) ∧ Xw.cell? ⟨wr.heap.size, 8, none⟩ = some (.slice J v.ins.length ic) from fun Xw h => ⟨h.cell x0, h.cell x1, h.cell x2, h.cell x3, h.cell x4, h.cell x5, h.cell x6, h.cell x7, h.cell x8⟩)
       refine wp_region_noPanic ?_
       refine wp_region_held_drew (S := fun Xw => Xw.cell? ⟨wr.heap.size, 0, none⟩ = some (.int .i64 v.op.kind) ∧ Xw.cell? ⟨wr.heap.size, 1, none⟩ = some (.int .i64 v.op.k) ∧ Xw.cell? ⟨wr.heap.size, 2, none⟩ = some (.int .i64 v.op.width) ∧ Xw.cell? ⟨wr.heap.size, 3, none⟩ = some (.int .i64 v.op.step) ∧ Xw.cell? ⟨wr.heap.size, 4, none⟩ = some (.int .i64 v.op.side) ∧ Xw.cell? ⟨wr.heap.size, 5, none⟩ = some (.int .i64 v.op.frm) ∧ Xw.cell? ⟨wr.heap.size, 6, none⟩ = some (.int .i64 v.op.to) ∧ Xw.cell? ⟨wr.heap.size, 7, none⟩ = some (.slice S v.op.s.length sc) ∧ Xw.cell? ⟨wr.heap.size, 8, none⟩ = some (.slice J v.ins.length ic)) (by kernel_rfl) (KF.out _ Later.au) (fun hHeld => ?_)
       refine tk 0 ?_
       refine tk 1 ?_
       refine tk 2 ?_
       refine tk 3 ?_
       refine tk 4 ?_
       refine tk 5 ?_
       refine tk 6 ?_
       refine tk 7 ?_
       refine tk 8 ?_
       refine wpAnyH_ready (rs := [9, 14]) (by kernel_rfl) (by simp) ?_
       refine AllReadyH.cons (o := _) rfl (fun K hK => ?_) (AllReadyH.cons (o := _) rfl (fun K hK => ?_) (AllReadyH.nil))
       ·simp only [ga, gs, gz]
        go_simp
        go_at_call 23; (with_reducible refine (Hpick.out _ (Later.au : Later wp _)).mono ?_); rintro e wk ⟨Kp, rfl, -, hKp, hbk⟩
        have HKp := Lib.hid hKp
        clear hKp
        have hLk : Later wp wk := (Later.au : Later wp wk)
        have HLk := Lib.hid hLk
        clear hLk
        try go_wp2_with fail
        refine hK.out _ _ (KF.out _ Later.au) (fun hHeld => ?_)
        clear hK K
        try simp only [ga, gs, gz, Act.put, sa, sz, ss]
        refine wpAnyH_ready (rs := [10, 14]) (by kernel_rfl) (by simp) ?_
        refine AllReadyH.cons (o := _) rfl (fun K hK => ?_) (AllReadyH.cons (o := _) rfl (fun K hK => ?_) (AllReadyH.nil))
        ·simp only [ga, gs, gz]
         go_simp
         go_at_call 11; (with_reducible refine (Hcl.out _ (Later.au : Later wp _) wk Kp HKp.out (Later.au : Later wk _) _ _).mono ?_); rintro e wg ⟨S3, c3, C3, d3, rfl, hne, hof, hbg⟩
         have Hof := Lib.hid hof
         clear hof hne
         have hwk := HLk.out.size
         try go_wp2_with fail
         refine hK.out _ _ (KF.out _ Later.au) (fun hHeld => ?_)
         clear hK K
         try simp only [ga, gs, gz, Act.put, sa, sz, ss]
         refine tk 11 ?_
         refine tk 12 ?_
         refine tk 13 ?_
         refine rd 14 fun K hK => ?_
         simp only [ga, gs, gz]
         go_simp
         refine hK.out _ _ (KF.out _ Later.au) (fun hHeld => ?_)
         clear hK K
         try simp only [ga, gs, gz, Act.put, sa, sz, ss]
         refine rd 15 fun K hK => ?_
         simp only [ga, gs, gz]
         go_simp
         refine hK.out _ _ ?_ (fun hHeld => ?_)
         ·(try dsimp only); (refine ⟨?_, ?_, ?_, ?_, ?_, ?_, ?_, ?_, ?_⟩ <;> (repeat (refine cell_setfar ?_ (by first | omega | (simp; done) | (simp; omega)))) <;> (refine Later.cell (Later.au : Later wp _) ?_) <;> assumption)
         clear hK K
         try simp only [ga, gs, gz, Act.put, sa, sz, ss]
         refine tk 16 ?_
         clear KF
         refine wpAnyH_done (by kernel_rfl) ?_ _
         refine NoPanic.normal ?_
         go_wp2_with fail
         have hlg : Later wp wg := (Later.au : Later wp wg)
         go_meet
         exact ⟨S3, c3, C3, d3, wg.heap.size, rfl, rfl, Blk.new wg _ _, fun h => ((Hof.out h).base (by omega)).later ((Later.refl wg).alloc _), hlg.alloc _⟩
        ·simp only [ga, gs, gz]
         go_simp
         refine hK.out _ _ (KF.out _ Later.au) (fun hHeld => ?_)
         clear hK K
         try simp only [ga, gs, gz, Act.put, sa, sz, ss]
         refine rd 10 fun K hK => ?_
         simp only [ga, gs, gz]
         go_simp
         go_at_call 11; (with_reducible refine (Hcl.out _ (Later.au : Later wp _) wk Kp HKp.out (Later.au : Later wk _) _ _).mono ?_); rintro e wg ⟨S3, c3, C3, d3, rfl, hne, hof, hbg⟩
         have Hof := Lib.hid hof
         clear hof hne
         have hwk := HLk.out.size
         have hbz := (show Later (wk.alloc (.cells #[.slice none 0 0, .slice none 0 0] 30)) wg from hbg).blk (Blk.new wk _ _)
         have b0' := hbz.cell 0
         have b1' := hbz.cell 1
         have bf0 := hbz.frozen 0
         have bf1 := hbz.frozen 1
         simp at b0' b1'
         have Hbz := Lib.hid hbz
         clear hbz
         try go_wp2_with fail
         refine hK.out _ _ (KF.out _ Later.au) (fun hHeld => ?_)
         clear hK K
         try simp only [ga, gs, gz, Act.put, sa, sz, ss]
         refine tk 11 ?_
         refine tk 12 ?_
         refine tk 13 ?_
         refine rd 15 fun K hK => ?_
         simp only [ga, gs, gz]
         go_simp
         refine hK.out _ _ ?_ (fun hHeld => ?_)
         ·(try dsimp only); (refine ⟨?_, ?_, ?_, ?_, ?_, ?_, ?_, ?_, ?_⟩ <;> (repeat (refine cell_setfar ?_ (by first | omega | (simp; done) | (simp; omega)))) <;> (refine Later.cell (Later.au : Later wp _) ?_) <;> assumption)
         clear hK K
         try simp only [ga, gs, gz, Act.put, sa, sz, ss]
         refine tk 16 ?_
         clear KF
         refine wpAnyH_done (by kernel_rfl) ?_ _
         refine NoPanic.normal ?_
         go_wp2_with fail
         have hlg : Later wp wg := (Later.au : Later wp wg)
         have hb5 := (Hbz.out.set_ 0 (.slice S3 R.1.s.length c3)).set_ 1 (.slice C3 R.1.c.length d3)
         go_meet
         exact ⟨S3, c3, C3, d3, wk.heap.size, rfl, rfl, (by simpa using hb5), fun h => ((Hof.out h).base (by first | omega | (simp; omega))).box Hbz.out, (hlg.set (p := ⟨wk.heap.size, 0, none⟩) (by first | omega | (simp; done) | (simp; omega)) _).set (p := ⟨wk.heap.size, 1, none⟩) (by first | omega | (simp; done) | (simp; omega)) _⟩
       ·simp only [ga, gs, gz]
        go_simp
        refine hK.out _ _ (KF.out _ Later.au) (fun hHeld => ?_)
        clear hK K
        try simp only [ga, gs, gz, Act.put, sa, sz, ss]
        refine rd 9 fun K hK => ?_
        simp only [ga, gs, gz]
        go_simp
        go_at_call 23; (with_reducible refine (Hpick.out _ (Later.au : Later wp _)).mono ?_); rintro e wk ⟨Kp, rfl, -, hKp, hbk⟩
        have HKp := Lib.hid hKp
        clear hKp
        have hLk : Later wp wk := (Later.au : Later wp wk)
        have HLk := Lib.hid hLk
        clear hLk
        try go_wp2_with fail
        refine hK.out _ _ (KF.out _ Later.au) (fun hHeld => ?_)
        clear hK K
        try simp only [ga, gs, gz, Act.put, sa, sz, ss]
        refine rd 10 fun K hK => ?_
        simp only [ga, gs, gz]
        go_simp
        go_at_call 11; (with_reducible refine (Hcl.out _ (Later.au : Later wp _) wk Kp HKp.out (Later.au : Later wk _) _ _).mono ?_); rintro e wg ⟨S3, c3, C3, d3, rfl, hne, hof, hbg⟩
        have Hof := Lib.hid hof
        clear hof hne
        have hwk := HLk.out.size
        have hbz := (show Later wk wg from hbg).blk ((show Later _ wk from hbk).blk ((Blk.new wp 30 #[.slice none 0 0, .slice none 0 0]).drew))
        have b0' := hbz.cell 0
        have b1' := hbz.cell 1
        have bf0 := hbz.frozen 0
        have bf1 := hbz.frozen 1
        simp at b0' b1'
        have Hbz := Lib.hid hbz
        clear hbz
        try go_wp2_with fail
        refine hK.out _ _ (KF.out _ Later.au) (fun hHeld => ?_)
        clear hK K
        try simp only [ga, gs, gz, Act.put, sa, sz, ss]
        refine tk 11 ?_
        refine tk 12 ?_
        refine tk 13 ?_
        refine rd 15 fun K hK => ?_
        simp only [ga, gs, gz]
        go_simp
        refine hK.out _ _ ?_ (fun hHeld => ?_)
        ·(try dsimp only); (refine ⟨?_, ?_, ?_, ?_, ?_, ?_, ?_, ?_, ?_⟩ <;> (repeat (refine cell_setfar ?_ (by first | omega | (simp; done) | (simp; omega)))) <;> (refine Later.cell (Later.au : Later wp _) ?_) <;> assumption)
        clear hK K
        try simp only [ga, gs, gz, Act.put, sa, sz, ss]
        refine tk 16 ?_
        clear KF
        refine wpAnyH_done (by kernel_rfl) ?_ _
        refine NoPanic.normal ?_
        go_wp2_with fail
        have hlg : Later wp wg := (Later.au : Later wp wg)
        have hb5 := (Hbz.out.set_ 0 (.slice S3 R.1.s.length c3)).set_ 1 (.slice C3 R.1.c.length d3)
        go_meet
        exact ⟨S3, c3, C3, d3, wp.heap.size, rfl, rfl, (by simpa using hb5), fun h => ((Hof.out h).base (by first | omega | (simp; omega))).box Hbz.out, (hlg.set (p := ⟨wp.heap.size, 0, none⟩) (by first | omega | (simp; done) | (simp; omega)) _).set (p := ⟨wp.heap.size, 1, none⟩) (by first | omega | (simp; done) | (simp; omega)) _⟩
      ·have u9 : (cp = fr) = True := eq_true (by omega)
       clear hfc
       go_wp2_with fail
       have KF := Lib.hid (show ∀ Xw, Later wp Xw → Xw.cell? ⟨wr.heap.size, 0, none⟩ = some (.int .i64 v.op.kind) ∧ Xw.cell? ⟨wr.heap.size, 1, none⟩ = some (.int .i64 v.op.k) ∧ Xw.cell? ⟨wr.heap.size, 2, none⟩ = some (.int .i64 v.op.width) ∧ Xw.cell? ⟨wr.heap.size, 3, none⟩ = some (.int .i64 v.op.step) ∧ Xw.cell? ⟨wr.heap.size, 4, none⟩ = some (.int .i64 v.op.side) ∧ Xw.cell? ⟨wr.heap.size, 5, none⟩ = some (.int .i64 v.op.frm) ∧ Xw.cell? ⟨wr.heap.size, 6, none⟩ = some (.int .i64 v.op.to) ∧ Xw.cell? ⟨wr.heap.size, 7, none⟩ = some (.slice S v.op.s.length sc) ∧ Xw.cell? ⟨wr.heap.size, 8, none⟩ = some (.slice J v.ins.length ic) from fun Xw h => ⟨h.cell x0, h.cell x1, h.cell x2, h.cell x3, h.cell x4, h.cell x5, h.cell x6, h.cell x7, h.cell x8⟩)
       refine wp_region_noPanic ?_
       refine wp_region_held_drew (S := fun Xw => Xw.cell? ⟨wr.heap.size, 0, none⟩ = some (.int .i64 v.op.kind) ∧ Xw.cell? ⟨wr.heap.size, 1, none⟩ = some (.int .i64 v.op.k) ∧ Xw.cell? ⟨wr.heap.size, 2, none⟩ = some (.int .i64 v.op.width) ∧ Xw.cell? ⟨wr.heap.size, 3, none⟩ = some (.int .i64 v.op.step) ∧ Xw.cell? ⟨wr.heap.size, 4, none⟩ = some (.int .i64 v.op.side) ∧ Xw.cell? ⟨wr.heap.size, 5, none⟩ = some (.int .i64 v.op.frm) ∧ Xw.cell? ⟨wr.heap.size, 6, none⟩ = some (.int .i64 v.op.to) ∧ Xw.cell? ⟨wr.heap.size, 7, none⟩ = some (.slice S v.op.s.length sc) ∧ Xw.cell? ⟨wr.heap.size, 8, none⟩ = some (.slice J v.ins.length ic)) (by kernel_rfl) (KF.out _ Later.au) (fun hHeld => ?_)
       refine tk 0 ?_
       refine tk 1 ?_
       refine tk 2 ?_
       refine tk 3 ?_
       refine tk 4 ?_
       refine tk 5 ?_
       refine tk 6 ?_
       refine tk 7 ?_
       refine tk 8 ?_
       refine wpAnyH_ready (rs := [9, 14]) (by kernel_rfl) (by simp) ?_
       refine AllReadyH.cons (o := _) rfl (fun K hK => ?_) (AllReadyH.cons (o := _) rfl (fun K hK => ?_) (AllReadyH.nil))
       ·simp only [ga, gs, gz]
        go_simp
        go_at_call 23; (with_reducible refine (Hpick.out _ (Later.au : Later wp _)).mono ?_); rintro e wk ⟨Kp, rfl, -, hKp, hbk⟩
        have HKp := Lib.hid hKp
        clear hKp
        have hLk : Later wp wk := (Later.au : Later wp wk)
        have HLk := Lib.hid hLk
        clear hLk
        try go_wp2_with fail
        refine hK.out _ _ (KF.out _ Later.au) (fun hHeld => ?_)
        clear hK K
        try simp only [ga, gs, gz, Act.put, sa, sz, ss]
        refine wpAnyH_ready (rs := [10, 14]) (by kernel_rfl) (by simp) ?_
        refine AllReadyH.cons (o := _) rfl (fun K hK => ?_) (AllReadyH.cons (o := _) rfl (fun K hK => ?_) (AllReadyH.nil))
        ·simp only [ga, gs, gz]
         go_simp
         go_at_call 11; (with_reducible refine (Hcl.out _ (Later.au : Later wp _) wk Kp HKp.out (Later.au : Later wk _) _ _).mono ?_); rintro e wg ⟨S3, c3, C3, d3, rfl, hne, hof, hbg⟩
         have Hof := Lib.hid hof
         clear hof hne
         have hwk := HLk.out.size
         try go_wp2_with fail
         refine hK.out _ _ (KF.out _ Later.au) (fun hHeld => ?_)
         clear hK K
         try simp only [ga, gs, gz, Act.put, sa, sz, ss]
         refine tk 11 ?_
         refine tk 12 ?_
         refine tk 13 ?_
         refine rd 14 fun K hK => ?_
         simp only [ga, gs, gz]
         go_simp
         refine hK.out _ _ (KF.out _ Later.au) (fun hHeld => ?_)
         clear hK K
         try simp only [ga, gs, gz, Act.put, sa, sz, ss]
         refine rd 15 fun K hK => ?_
         simp only [ga, gs, gz]
         go_simp
         refine hK.out _ _ ?_ (fun hHeld => ?_)
         ·(try dsimp only); (refine ⟨?_, ?_, ?_, ?_, ?_, ?_, ?_, ?_, ?_⟩ <;> (repeat (refine cell_setfar ?_ (by first | omega | (simp; done) | (simp; omega)))) <;> (refine Later.cell (Later.au : Later wp _) ?_) <;> assumption)
         clear hK K
         try simp only [ga, gs, gz, Act.put, sa, sz, ss]
         refine tk 16 ?_
         clear KF
         refine wpAnyH_done (by kernel_rfl) ?_ _
         refine NoPanic.normal ?_
         go_wp2_with fail
         have hlg : Later wp wg := (Later.au : Later wp wg)
         go_meet
         exact ⟨S3, c3, C3, d3, wg.heap.size, rfl, rfl, Blk.new wg _ _, fun h => ((Hof.out h).base (by omega)).later ((Later.refl wg).alloc _), hlg.alloc _⟩
        ·simp only [ga, gs, gz]
         go_simp
         refine hK.out _ _ (KF.out _ Later.au) (fun hHeld => ?_)
         clear hK K
         try simp only [ga, gs, gz, Act.put, sa, sz, ss]
         refine rd 10 fun K hK => ?_
         simp only [ga, gs, gz]
         go_simp
         go_at_call 11; (with_reducible refine (Hcl.out _ (Later.au : Later wp _) wk Kp HKp.out (Later.au : Later wk _) _ _).mono ?_); rintro e wg ⟨S3, c3, C3, d3, rfl, hne, hof, hbg⟩
         have Hof := Lib.hid hof
         clear hof hne
         have hwk := HLk.out.size
         have hbz := (show Later (wk.alloc (.cells #[.slice none 0 0, .slice none 0 0] 30)) wg from hbg).blk (Blk.new wk _ _)
         have b0' := hbz.cell 0
         have b1' := hbz.cell 1
         have bf0 := hbz.frozen 0
         have bf1 := hbz.frozen 1
         simp at b0' b1'
         have Hbz := Lib.hid hbz
         clear hbz
         try go_wp2_with fail
         refine hK.out _ _ (KF.out _ Later.au) (fun hHeld => ?_)
         clear hK K
         try simp only [ga, gs, gz, Act.put, sa, sz, ss]
         refine tk 11 ?_
         refine tk 12 ?_
         refine tk 13 ?_
         refine rd 15 fun K hK => ?_
         simp only [ga, gs, gz]
         go_simp
         refine hK.out _ _ ?_ (fun hHeld => ?_)
         ·(try dsimp only); (refine ⟨?_, ?_, ?_, ?_, ?_, ?_, ?_, ?_, ?_⟩ <;> (repeat (refine cell_setfar ?_ (by first | omega | (simp; done) | (simp; omega)))) <;> (refine Later.cell (Later.au : Later wp _) ?_) <;> assumption)
         clear hK K
         try simp only [ga, gs, gz, Act.put, sa, sz, ss]
         refine tk 16 ?_
         clear KF
         refine wpAnyH_done (by kernel_rfl) ?_ _
         refine NoPanic.normal ?_
         go_wp2_with fail
         have hlg : Later wp wg := (Later.au : Later wp wg)
         have hb5 := (Hbz.out.set_ 0 (.slice S3 R.1.s.length c3)).set_ 1 (.slice C3 R.1.c.length d3)
         go_meet
         exact ⟨S3, c3, C3, d3, wk.heap.size, rfl, rfl, (by simpa using hb5), fun h => ((Hof.out h).base (by first | omega | (simp; omega))).box Hbz.out, (hlg.set (p := ⟨wk.heap.size, 0, none⟩) (by first | omega | (simp; done) | (simp; omega)) _).set (p := ⟨wk.heap.size, 1, none⟩) (by first | omega | (simp; done) | (simp; omega)) _⟩
       ·simp only [ga, gs, gz]
        go_simp
        refine hK.out _ _ (KF.out _ Later.au) (fun hHeld => ?_)
        clear hK K
        try simp only [ga, gs, gz, Act.put, sa, sz, ss]
        refine rd 9 fun K hK => ?_
        simp only [ga, gs, gz]
        go_simp
        go_at_call 23; (with_reducible refine (Hpick.out _ (Later.au : Later wp _)).mono ?_); rintro e wk ⟨Kp, rfl, -, hKp, hbk⟩
        have HKp := Lib.hid hKp
        clear hKp
        have hLk : Later wp wk := (Later.au : Later wp wk)
        have HLk := Lib.hid hLk
        clear hLk
        try go_wp2_with fail
        refine hK.out _ _ (KF.out _ Later.au) (fun hHeld => ?_)
        clear hK K
        try simp only [ga, gs, gz, Act.put, sa, sz, ss]
        refine rd 10 fun K hK => ?_
        simp only [ga, gs, gz]
        go_simp
        go_at_call 11; (with_reducible refine (Hcl.out _ (Later.au : Later wp _) wk Kp HKp.out (Later.au : Later wk _) _ _).mono ?_); rintro e wg ⟨S3, c3, C3, d3, rfl, hne, hof, hbg⟩
        have Hof := Lib.hid hof
        clear hof hne
        have hwk := HLk.out.size
        have hbz := (show Later wk wg from hbg).blk ((show Later _ wk from hbk).blk ((Blk.new wp 30 #[.slice none 0 0, .slice none 0 0]).drew))
        have b0' := hbz.cell 0
        have b1' := hbz.cell 1
        have bf0 := hbz.frozen 0
        have bf1 := hbz.frozen 1
        simp at b0' b1'
        have Hbz := Lib.hid hbz
        clear hbz
        try go_wp2_with fail
        refine hK.out _ _ (KF.out _ Later.au) (fun hHeld => ?_)
        clear hK K
        try simp only [ga, gs, gz, Act.put, sa, sz, ss]
        refine tk 11 ?_
        refine tk 12 ?_
        refine tk 13 ?_
        refine rd 15 fun K hK => ?_
        simp only [ga, gs, gz]
        go_simp
        refine hK.out _ _ ?_ (fun hHeld => ?_)
        ·(try dsimp only); (refine ⟨?_, ?_, ?_, ?_, ?_, ?_, ?_, ?_, ?_⟩ <;> (repeat (refine cell_setfar ?_ (by first | omega | (simp; done) | (simp; omega)))) <;> (refine Later.cell (Later.au : Later wp _) ?_) <;> assumption)
        clear hK K
        try simp only [ga, gs, gz, Act.put, sa, sz, ss]
        refine tk 16 ?_
        clear KF
        refine wpAnyH_done (by kernel_rfl) ?_ _
        refine NoPanic.normal ?_
        go_wp2_with fail
        have hlg : Later wp wg := (Later.au : Later wp wg)
        have hb5 := (Hbz.out.set_ 0 (.slice S3 R.1.s.length c3)).set_ 1 (.slice C3 R.1.c.length d3)
        go_meet
        exact ⟨S3, c3, C3, d3, wp.heap.size, rfl, rfl, (by simpa using hb5), fun h => ((Hof.out h).base (by first | omega | (simp; omega))).box Hbz.out, (hlg.set (p := ⟨wp.heap.size, 0, none⟩) (by first | omega | (simp; done) | (simp; omega)) _).set (p := ⟨wp.heap.size, 1, none⟩) (by first | omega | (simp; done) | (simp; omega)) _⟩
    ·obtain ⟨bq, oq, _, _, _, _, rfl, -, -, -, -⟩ := HP.out 0 (by omega)
     have u3 : fr < cp := by omega
     have u4 : (fr : Int) < (cp : Int) := by omega
     have hcl := fun (W : World) (h : Later wp W) (V : World) (Kp : Nat) (hK : Tns V (some ⟨Kp, 0, none⟩) (Pn.pickT vals v.ins)) (hV : Later V W) (pc : Nat) => Hgo.out W h (some ⟨bq, oq + fr * 2, none⟩) (some ⟨Kp, 0, none⟩) pc ((HP.out.later (Hwp.out.trans h)).part fr _) (hK.later hV)
     have Hcl := Lib.hid hcl
     clear hcl
     go_wp2_with fail
     have KF := Lib.hid (show ∀ Xw, Later wp Xw → Xw.cell? ⟨wr.heap.size, 0, none⟩ = some (.int .i64 v.op.kind) ∧ Xw.cell? ⟨wr.heap.size, 1, none⟩ = some (.int .i64 v.op.k) ∧ Xw.cell? ⟨wr.heap.size, 2, none⟩ = some (.int .i64 v.op.width) ∧ Xw.cell? ⟨wr.heap.size, 3, none⟩ = some (.int .i64 v.op.step) ∧ Xw.cell? ⟨wr.heap.size, 4, none⟩ = some (.int .i64 v.op.side) ∧ Xw.cell? ⟨wr.heap.size, 5, none⟩ = some (.int .i64 v.op.frm) ∧ Xw.cell? ⟨wr.heap.size, 6, none⟩ = some (.int .i64 v.op.to) ∧ Xw.cell? ⟨wr.heap.size, 7, none⟩ = some (.slice S v.op.s.length sc) ∧ Xw.cell? ⟨wr.heap.size, 8, none⟩ = some (.slice J v.ins.length ic) from fun Xw h => ⟨h.cell x0, h.cell x1, h.cell x2, h.cell x3, h.cell x4, h.cell x5, h.cell x6, h.cell x7, h.cell x8⟩)
     refine wp_region_noPanic ?_
     refine wp_region_held_drew (S := fun Xw => Xw.cell? ⟨wr.heap.size, 0, none⟩ = some (.int .i64 v.op.kind) ∧ Xw.cell? ⟨wr.heap.size, 1, none⟩ = some (.int .i64 v.op.k) ∧ Xw.cell? ⟨wr.heap.size, 2, none⟩ = some (.int .i64 v.op.width) ∧ Xw.cell? ⟨wr.heap.size, 3, none⟩ = some (.int .i64 v.op.step) ∧ Xw.cell? ⟨wr.heap.size, 4, none⟩ = some (.int .i64 v.op.side) ∧ Xw.cell? ⟨wr.heap.size, 5, none⟩ = some (.int .i64 v.op.frm) ∧ Xw.cell? ⟨wr.heap.size, 6, none⟩ = some (.int .i64 v.op.to) ∧ Xw.cell? ⟨wr.heap.size, 7, none⟩ = some (.slice S v.op.s.length sc) ∧ Xw.cell? ⟨wr.heap.size, 8, none⟩ = some (.slice J v.ins.length ic)) (by kernel_rfl) (KF.out _ Later.au) (fun hHeld => ?_)
     refine tk 0 ?_
     refine tk 1 ?_
     refine tk 2 ?_
     refine tk 3 ?_
     refine tk 4 ?_
     refine tk 5 ?_
     refine tk 6 ?_
     refine tk 7 ?_
     refine tk 8 ?_
     refine wpAnyH_ready (rs := [9, 14]) (by kernel_rfl) (by simp) ?_
     refine AllReadyH.cons (o := _) rfl (fun K hK => ?_) (AllReadyH.cons (o := _) rfl (fun K hK => ?_) (AllReadyH.nil))
     ·simp only [ga, gs, gz]
      go_simp
      go_at_call 23; (with_reducible refine (Hpick.out _ (Later.au : Later wp _)).mono ?_); rintro e wk ⟨Kp, rfl, -, hKp, hbk⟩
      have HKp := Lib.hid hKp
      clear hKp
      have hLk : Later wp wk := (Later.au : Later wp wk)
      have HLk := Lib.hid hLk
      clear hLk
      try go_wp2_with fail
      refine hK.out _ _ (KF.out _ Later.au) (fun hHeld => ?_)
      clear hK K
      try simp only [ga, gs, gz, Act.put, sa, sz, ss]
      refine wpAnyH_ready (rs := [10, 14]) (by kernel_rfl) (by simp) ?_
      refine AllReadyH.cons (o := _) rfl (fun K hK => ?_) (AllReadyH.cons (o := _) rfl (fun K hK => ?_) (AllReadyH.nil))
      ·simp only [ga, gs, gz]
       go_simp
       go_at_call 11; (with_reducible refine (Hcl.out _ (Later.au : Later wp _) wk Kp HKp.out (Later.au : Later wk _) _).mono ?_); rintro e wg ⟨S3, c3, C3, d3, rfl, hne, hof, hbg⟩
       have Hof := Lib.hid hof
       clear hof hne
       have hwk := HLk.out.size
       try go_wp2_with fail
       refine hK.out _ _ (KF.out _ Later.au) (fun hHeld => ?_)
       clear hK K
       try simp only [ga, gs, gz, Act.put, sa, sz, ss]
       refine tk 11 ?_
       refine tk 12 ?_
       refine tk 13 ?_
       refine rd 14 fun K hK => ?_
       simp only [ga, gs, gz]
       go_simp
       refine hK.out _ _ (KF.out _ Later.au) (fun hHeld => ?_)
       clear hK K
       try simp only [ga, gs, gz, Act.put, sa, sz, ss]
       refine rd 15 fun K hK => ?_
       simp only [ga, gs, gz]
       go_simp
       refine hK.out _ _ ?_ (fun hHeld => ?_)
       ·(try dsimp only); (refine ⟨?_, ?_, ?_, ?_, ?_, ?_, ?_, ?_, ?_⟩ <;> (repeat (refine cell_setfar ?_ (by first | omega | (simp; done) | (simp; omega)))) <;> (refine Later.cell (Later.au : Later wp _) ?_) <;> assumption)
       clear hK K
       try simp only [ga, gs, gz, Act.put, sa, sz, ss]
       refine tk 16 ?_
       clear KF
       refine wpAnyH_done (by kernel_rfl) ?_ _
       refine NoPanic.normal ?_
       go_wp2_with fail
       have hlg : Later wp wg := (Later.au : Later wp wg)
       go_meet
       exact ⟨S3, c3, C3, d3, wg.heap.size, rfl, rfl, Blk.new wg _ _, fun h => ((Hof.out h).base (by omega)).later ((Later.refl wg).alloc _), hlg.alloc _⟩
      ·simp only [ga, gs, gz]
       go_simp
       refine hK.out _ _ (KF.out _ Later.au) (fun hHeld => ?_)
       clear hK K
       try simp only [ga, gs, gz, Act.put, sa, sz, ss]
       refine rd 10 fun K hK => ?_
       simp only [ga, gs, gz]
       go_simp
       go_at_call 11; (with_reducible refine (Hcl.out _ (Later.au : Later wp _) wk Kp HKp.out (Later.au : Later wk _) _).mono ?_); rintro e wg ⟨S3, c3, C3, d3, rfl, hne, hof, hbg⟩
       have Hof := Lib.hid hof
       clear hof hne
       have hwk := HLk.out.size
       have hbz := (show Later (wk.alloc (.cells #[.slice none 0 0, .slice none 0 0] 30)) wg from hbg).blk (Blk.new wk _ _)
       have b0' := hbz.cell 0
       have b1' := hbz.cell 1
       have bf0 := hbz.frozen 0
       have bf1 := hbz.frozen 1
       simp at b0' b1'
       have Hbz := Lib.hid hbz
       clear hbz
       try go_wp2_with fail
       refine hK.out _ _ (KF.out _ Later.au) (fun hHeld => ?_)
       clear hK K
       try simp only [ga, gs, gz, Act.put, sa, sz, ss]
       refine tk 11 ?_
       refine tk 12 ?_
       refine tk 13 ?_
       refine rd 15 fun K hK => ?_
       simp only [ga, gs, gz]
       go_simp
       refine hK.out _ _ ?_ (fun hHeld => ?_)
       ·(try dsimp only); (refine ⟨?_, ?_, ?_, ?_, ?_, ?_, ?_, ?_, ?_⟩ <;> (repeat (refine cell_setfar ?_ (by first | omega | (simp; done) | (simp; omega)))) <;> (refine Later.cell (Later.au : Later wp _) ?_) <;> assumption)
       clear hK K
       try simp only [ga, gs, gz, Act.put, sa, sz, ss]
       refine tk 16 ?_
       clear KF
       refine wpAnyH_done (by kernel_rfl) ?_ _
       refine NoPanic.normal ?_
       go_wp2_with fail
       have hlg : Later wp wg := (Later.au : Later wp wg)
       have hb5 := (Hbz.out.set_ 0 (.slice S3 R.1.s.length c3)).set_ 1 (.slice C3 R.1.c.length d3)
       go_meet
       exact ⟨S3, c3, C3, d3, wk.heap.size, rfl, rfl, (by simpa using hb5), fun h => ((Hof.out h).base (by first | omega | (simp; omega))).box Hbz.out, (hlg.set (p := ⟨wk.heap.size, 0, none⟩) (by first | omega | (simp; done) | (simp; omega)) _).set (p := ⟨wk.heap.size, 1, none⟩) (by first | omega | (simp; done) | (simp; omega)) _⟩
     ·simp only [ga, gs, gz]
      go_simp
      refine hK.out _ _ (KF.out _ Later.au) (fun hHeld => ?_)
      clear hK K
      try simp only [ga, gs, gz, Act.put, sa, sz, ss]
      refine rd 9 fun K hK => ?_
      simp only [ga, gs, gz]
      go_simp
      go_at_call 23; (with_reducible refine (Hpick.out _ (Later.au : Later wp _)).mono ?_); rintro e wk ⟨Kp, rfl, -, hKp, hbk⟩
      have HKp := Lib.hid hKp
      clear hKp
      have hLk : Later wp wk := (Later.au : Later wp wk)
      have HLk := Lib.hid hLk
      clear hLk
      try go_wp2_with fail
      refine hK.out _ _ (KF.out _ Later.au) (fun hHeld => ?_)
      clear hK K
      try simp only [ga, gs, gz, Act.put, sa, sz, ss]
      refine rd 10 fun K hK => ?_
      simp only [ga, gs, gz]
      go_simp
      go_at_call 11; (with_reducible refine (Hcl.out _ (Later.au : Later wp _) wk Kp HKp.out (Later.au : Later wk _) _).mono ?_); rintro e wg ⟨S3, c3, C3, d3, rfl, hne, hof, hbg⟩
      have Hof := Lib.hid hof
      clear hof hne
      have hwk := HLk.out.size
      have hbz := (show Later wk wg from hbg).blk ((show Later _ wk from hbk).blk ((Blk.new wp 30 #[.slice none 0 0, .slice none 0 0]).drew))
      have b0' := hbz.cell 0
      have b1' := hbz.cell 1
      have bf0 := hbz.frozen 0
      have bf1 := hbz.frozen 1
      simp at b0' b1'
      have Hbz := Lib.hid hbz
      clear hbz
      try go_wp2_with fail
      refine hK.out _ _ (KF.out _ Later.au) (fun hHeld => ?_)
      clear hK K
      try simp only [ga, gs, gz, Act.put, sa, sz, ss]
      refine tk 11 ?_
      refine tk 12 ?_
      refine tk 13 ?_
      refine rd 15 fun K hK => ?_
      simp only [ga, gs, gz]
      go_simp
      refine hK.out _ _ ?_ (fun hHeld => ?_)
      ·(try dsimp only); (refine ⟨?_, ?_, ?_, ?_, ?_, ?_, ?_, ?_, ?_⟩ <;> (repeat (refine cell_setfar ?_ (by first | omega | (simp; done) | (simp; omega)))) <;> (refine Later.cell (Later.au : Later wp _) ?_) <;> assumption)
      clear hK K
      try simp only [ga, gs, gz, Act.put, sa, sz, ss]
      refine tk 16 ?_
      clear KF
      refine wpAnyH_done (by kernel_rfl) ?_ _
      refine NoPanic.normal ?_
      go_wp2_with fail
      have hlg : Later wp wg := (Later.au : Later wp wg)
      have hb5 := (Hbz.out.set_ 0 (.slice S3 R.1.s.length c3)).set_ 1 (.slice C3 R.1.c.length d3)
      go_meet
      exact ⟨S3, c3, C3, d3, wp.heap.size, rfl, rfl, (by simpa using hb5), fun h => ((Hof.out h).base (by first | omega | (simp; omega))).box Hbz.out, (hlg.set (p := ⟨wp.heap.size, 0, none⟩) (by first | omega | (simp; done) | (simp; omega)) _).set (p := ⟨wp.heap.size, 1, none⟩) (by first | omega | (simp; done) | (simp; omega)) _⟩
   case rest =>
    obtain ⟨S3, c3, C3, d3, tb, rfl, rfl, hTb, hTo, hlc⟩ := hcut
    have hlr := Hrp.out.trans hlc
    have h0c := Hlw.out.trans hlr
    have hGc := hlc.blk HGp.out
    have l0 := hTb.cell 0
    have l1 := hTb.cell 1
    simp at l0 l1
    by_cases hr : R.2 = 0
    case neg =>
     have HE := Lib.hid (show (Pn.forward n ps x).2 = R.2 by rw [Hfw2.out, if_neg hr])
     have d2 : (R.2 != 0) = true := by simpa using hr
     have Hr := Lib.hid hr
     clear hr
     generalize R.2 = ge at *
     have Hlr := Lib.hid hlr
     have H0c := Lib.hid h0c
     have HGc := Lib.hid hGc
     have HTb := Lib.hid hTb
     have HTo := Lib.hid hTo
     have Hlc := Lib.hid hlc
     clear hlr h0c hGc hTb hTo hlc
     go_wp2_with fail
     refine bodyPost_ret (v := .tuple #[.slice none 0 0, .int .i64 ge]) (by simp [results, Tryz.results7, go_sem]) rfl ?_
     exact FwdP.fail HE.out Hr.out H0c.out
    have hfw3 := Hfw2.out.trans (if_pos hr)
    have hro := (Hvs.out.later hlr).set (k := j + 1) (by rw [Hvl.out]; omega) (hTo hr)
    have hvl2 : vs.length = (n.nodes.length + 1) * 2 := by rw [Hvs.out.1, Hvl.out]
    obtain ⟨p0, e0⟩ : ∃ u, wc.cell? ⟨w3.heap.size, (j + 1) * 2, none⟩ = some u := by rw [hGc.cell]; exact ⟨_, by rw [List.getElem?_toArray, List.getElem?_eq_getElem (by omega)]⟩
    obtain ⟨p1, e1⟩ : ∃ u, wc.cell? ⟨w3.heap.size, (j + 1) * 2 + 1, none⟩ = some u := by rw [hGc.cell]; exact ⟨_, by rw [List.getElem?_toArray, List.getElem?_eq_getElem (by omega)]⟩
    have f0 := hGc.frozen ((j + 1) * 2)
    have f1 := hGc.frozen ((j + 1) * 2 + 1)
    rw [hr]
    have g2' : (j : Int) + 1 < (n.nodes.length : Int) + 1 := by omega
    clear hr
    have hro2 := hro.off (i := (j + 1) * 2) (k := (j + 1) * 2 + 1) hGc Hvs.out.rowT.cell (.slice S3 R.1.s.length c3) (.slice C3 R.1.c.length d3)
    have hG2 := (hGc.set_ ((j + 1) * 2) (.slice S3 R.1.s.length c3)).set_ ((j + 1) * 2 + 1) (.slice C3 R.1.c.length d3)
    rw [List.setIfInBounds_toArray, List.setIfInBounds_toArray] at hG2
    have hl2 := ((Hlx.out.trans hlr).set (p := ⟨w3.heap.size, (j + 1) * 2, none⟩) (Nat.le_refl _) (.slice S3 R.1.s.length c3)).set (p := ⟨w3.heap.size, (j + 1) * 2 + 1, none⟩) (Nat.le_refl _) (.slice C3 R.1.c.length d3)
    have Hlr := Lib.hid hlr
    have H0c := Lib.hid h0c
    have HGc := Lib.hid hGc
    have HTb := Lib.hid hTb
    have HTo := Lib.hid hTo
    have Hlc := Lib.hid hlc
    have Hfw3 := Lib.hid hfw3
    have Hro := Lib.hid hro
    have Hvl2 := Lib.hid hvl2
    have Hro2 := Lib.hid hro2
    have HG2 := Lib.hid hG2
    have Hl2 := Lib.hid hl2
    clear hlr h0c hGc hTb hTo hlc hfw3 hro hvl2 hro2 hG2 hl2
    go_wp2_with fail
    go_roundw
    case rel => exact ⟨k + 1, _, _, by omega, by go_num, HG2.out, Hro2.out, by rw [List.length_set]; exact Hvl.out, Hl2.out, Hfw3.out⟩
    case measure => simp [intOf]; omega
  ·obtain rfl : k = n.nodes.length := by omega
   have hfe : Pn.forward n ps x = (vals, 0) := by rw [hfw, List.drop_eq_nil_of_le (by rw [Hsl.out]; exact Nat.le_refl _), Pn.fwd]
   have h0r := H03.out.trans hlx
   have HG := Lib.hid hG
   have Hvs := Lib.hid hvs
   have Hvl := Lib.hid hvl
   have Hlx := Lib.hid hlx
   have Hfe := Lib.hid hfe
   have H0r := Lib.hid h0r
   clear hG hvs hvl hlx hfe h0r
   clear hfw
   go_wp2_with fail
   refine bodyPost_ret (v := .tuple #[.slice (some ⟨w3.heap.size, 0, none⟩) (n.nodes.length + 1) (n.nodes.length + 1), .int .i64 0]) (by simp [results, Tryz.results7, go_sem]) rfl ?_
   rw [Hfe.out]
   exact ⟨.inr ⟨rfl, w3.heap.size, by rw [Hvl.out], Hvs.out.tnsO HG.out hs3⟩, H0r.out⟩
end Go.Proofs.YtbnnpkcfifejmabGreat
namespace Go.Proofs.YtbnnpkcfifejmabGreat
open Go.RowKit
set_option maxHeartbeats 8000000 in
set_option maxRecDepth 20000 in
theorem run_bad (A N P XS XC : Option Addr) (c d cp xc xd : Nat) (n : NetD) (ps : List Ten) (x : Ten) (w : World) (hok : n.ok) (hR : NetR w A N n) (hd : n.nodes.length ≤ d) (hP : Tns w P ps) (lP : ps.length ≤ 1048576) (kP : ps.length ≤ cp) (mP : cp ≤ 9223372036854775807) (nP : P = none → cp = 0) (hX : TenIn w XS XC xc xd x) (hne : (Pn.forward n ps x).2 ≠ 0) :
  Calls Tryz.prog 18 #[.agg #[.slice A n.inn.length c, .slice N n.nodes.length d], .slice P ps.length cp, .agg #[.slice XS x.s.length xc, .slice XC x.c.length xd]] w fun e w' => e = .returned (.tuple #[.agg #[.int .i64 0, .slice none 0 0, .slice none 0 0, .slice none 0 0], .int .i64 (Pn.forward n ps x).2]) ∧ Below w.heap.size w w' := by
 have hkn := ((Blk.new w 26 #[.slice A n.inn.length c, .slice N n.nodes.length d]).alloc (.cells #[.slice XS x.s.length xc, .slice XC x.c.length xd] 30)).alloc (.cells #[.int .i64 0, .slice none 0 0, .slice none 0 0, .slice none 0 0] 63)
 have hkx := (Blk.new (w.alloc (.cells #[.slice A n.inn.length c, .slice N n.nodes.length d] 26)) 30 #[.slice XS x.s.length xc, .slice XC x.c.length xd]).alloc (.cells #[.int .i64 0, .slice none 0 0, .slice none 0 0, .slice none 0 0] 63)
 have hz := Blk.new ((w.alloc (.cells #[.slice A n.inn.length c, .slice N n.nodes.length d] 26)).alloc (.cells #[.slice XS x.s.length xc, .slice XC x.c.length xd] 30)) 63 #[.int .i64 0, .slice none 0 0, .slice none 0 0, .slice none 0 0]
 simp only [World.size_alloc] at hkx hz
 have h01 : Later w (((w.alloc (.cells #[.slice A n.inn.length c, .slice N n.nodes.length d] 26)).alloc (.cells #[.slice XS x.s.length xc, .slice XC x.c.length xd] 30)).alloc (.cells #[.int .i64 0, .slice none 0 0, .slice none 0 0, .slice none 0 0] 63)) := (((Later.refl w).alloc _).alloc _).alloc _
 have Hok := Lib.hid hok
 have HR := Lib.hid hR
 have HP := Lib.hid hP
 have HX := Lib.hid hX
 have Hkn := Lib.hid hkn
 have Hkx := Lib.hid hkx
 have Hz := Lib.hid hz
 have H01 := Lib.hid h01
 have HnP := Lib.hid nP
 clear hok hR hP hX hkn hkx hz h01 nP
 go_enter Tryz.func18, Tryz.ntmps18
 go_upto_region 1 with fail
 generalize ((w.alloc (.cells #[.slice A n.inn.length c, .slice N n.nodes.length d] 26)).alloc (.cells #[.slice XS x.s.length xc, .slice XC x.c.length xd] 30)).alloc (.cells #[.int .i64 0, .slice none 0 0, .slice none 0 0, .slice none 0 0] 63) = w1 at *
 have a0 := Hkn.out.cell 0
 have a1 := Hkn.out.cell 1
 have b0 := Hkx.out.cell 0
 have b1 := Hkx.out.cell 1
 simp at a0 a1 b0 b1
 have hcf := plain_forward A N P XS XC c d cp xc xd n ps x w1 Hok.out (HR.out.below H01.out (Nat.le_refl _)) hd (HP.out.later H01.out) lP kP mP HnP.out (HX.out.later H01.out)
 obtain ⟨r, hr⟩ : ∃ r, Pn.forward n ps x = r := ⟨_, rfl⟩
 rw [hr] at hcf hne
 have HE := Lib.hid hr
 clear hr
 have d2 : (r.2 != 0) = true := by simpa using hne
 have Hne := Lib.hid hne
 clear hne
 have Hcf := Lib.hid hcf
 clear hcf
 go_wp2_with fail
 refine (Hcf.out).mono ?_
 rintro e w2 ⟨⟨-, rfl⟩ | ⟨hbad, -⟩, hb2⟩
 rotate_left
 ·exact absurd hbad Hne.out
 have h12 : Later w1 w2 := hb2
 have h02 := H01.out.trans h12
 have hz2 := h12.blk Hz.out
 have m0 := hz2.cell 0
 have m1 := hz2.cell 1
 have m2 := hz2.cell 2
 have m3 := hz2.cell 3
 have mf0 := hz2.frozen 0
 have mf1 := hz2.frozen 1
 have mf2 := hz2.frozen 2
 have mf3 := hz2.frozen 3
 have hzf := (((hz2.set_ 0 (.int .i64 0)).set_ 1 (.slice none 0 0)).set_ 2 (.slice none 0 0)).set_ 3 (.slice none 0 0)
 have e0 := hzf.cell 0
 have e1 := hzf.cell 1
 have e2 := hzf.cell 2
 have e3 := hzf.cell 3
 simp at m0 m1 m2 m3 e0 e1 e2 e3
 clear hb2 a0 a1 b0 b1
 have H12 := Lib.hid h12
 have H02 := Lib.hid h02
 have Hz2 := Lib.hid hz2
 have Hzf := Lib.hid hzf
 clear h12 h02 hz2 hzf
 go_wp2_with fail
 refine bodyPost_ret (v := .tuple #[.agg #[.int .i64 0, .slice none 0 0, .slice none 0 0, .slice none 0 0], .int .i64 r.2]) (by simp [results, Tryz.results18, go_sem, e0, e1, e2, e3]) rfl ?_
 exact ⟨by rw [HE.out], (((H02.out.set (p := ⟨w.heap.size + 2, 0, none⟩) (by simp) _).set (p := ⟨w.heap.size + 2, 1, none⟩) (by simp) _).set (p := ⟨w.heap.size + 2, 2, none⟩) (by simp) _).set (p := ⟨w.heap.size + 2, 3, none⟩) (by simp) _⟩
end Go.Proofs.YtbnnpkcfifejmabGreat
namespace Go.Proofs.YtbnnpkcfifejmabGreat
open Go.RowKit
namespace Pn
def add (g m : Ten) : Ten := if g.c.length = 0 then m else if (Ly.add g m).2 = 0 then (Ly.add g m).1 else g
end Pn
def TenR1 (t : Ten) (w : World) (e : Ending) (w' : World) : Prop := ∃ v, e = .returned v ∧ TenO w.heap.size w' v t ∧ Below w.heap.size w w'
theorem ten_fin {t : Ten} {w w1 wf : World} {v u u2 : Value} {p : Nat} {T : TypeId} (ho : TenO w1.heap.size wf v t) (hL : Later w wf) (hz : Blk wf p T #[.slice none 0 0, .slice none 0 0]) (hp : w.heap.size ≤ p) (hs : w.heap.size ≤ w1.heap.size) :
  TenR1 t w (.returned v) ((wf.setCell ⟨p, 0, none⟩ u).setCell ⟨p, 1, none⟩ u2) :=
 ⟨v, rfl, (ho.base hs).box hz, (hL.set (p := ⟨p, 0, none⟩) hp _).set (p := ⟨p, 1, none⟩) hp _⟩
set_option maxHeartbeats 8000000 in
theorem plain_add (GS GC MS MC : Option Addr) (c d c' d' : Nat) (g m : Ten) (w : World) (hG : TenIn w GS GC c d g) (hM : TenIn w MS MC c' d' m) (l1 : g.s.length ≤ 1000000) (l2 : g.c.length ≤ 1000000) (l3 : m.s.length ≤ 1000000) (l4 : m.c.length ≤ 1000000) :
  Calls Tryz.prog 47 #[.agg #[.slice GS g.s.length c, .slice GC g.c.length d], .agg #[.slice MS m.s.length c', .slice MC m.c.length d']] w (TenR1 (Pn.add g m) w) := by
 obtain ⟨hk0, hk1, hz, h01⟩ := three_boxes w 30 30 30 #[.slice GS g.s.length c, .slice GC g.c.length d] #[.slice MS m.s.length c', .slice MC m.c.length d'] #[.slice none 0 0, .slice none 0 0]
 have Hk0 := Lib.hid hk0
 have Hk1 := Lib.hid hk1
 have Hz := Lib.hid hz
 have H01 := Lib.hid h01
 have HG := Lib.hid hG
 have HM := Lib.hid hM
 clear hk0 hk1 hz h01 hG hM
 go_enter Tryz.func47, Tryz.ntmps47
 go_upto_region 1 with fail
 generalize (((w.alloc (.cells #[.slice GS g.s.length c, .slice GC g.c.length d] 30)).alloc (.cells #[.slice MS m.s.length c', .slice MC m.c.length d'] 30)).alloc (.cells #[.slice none 0 0, .slice none 0 0] 30)) = w1 at *
 have a0 := Hk0.out.cell 0
 have a1 := Hk0.out.cell 1
 have b0 := Hk1.out.cell 0
 have b1 := Hk1.out.cell 1
 simp at a0 a1 b0 b1
 have hs1 := H01.out.size
 by_cases h0 : g.c.length = 0
 ·have HE := Lib.hid (show Pn.add g m = m by unfold Pn.add; rw [if_pos h0])
  have d1 : ((g.c.length : Int) == 0) = true := by simp [h0]
  have q1 : (g.c.length : Int) = 0 := by omega
  clear h0
  go_wp2_with fail
  refine (tensor_copy MS MC c' d' m w1 l3 l4 (HM.out.later H01.out).r).mono ?_
  rintro e w2 ⟨v, rfl, hN, hb2⟩
  have h12 : Later w1 w2 := hb2
  have hz2 := h12.blk Hz.out
  have hO := hN.o (B := w1.heap.size) (by omega) (by omega) HM.out.num
  obtain ⟨g1, h1, rfl, -, -, -, -⟩ := hN
  have c0 := hz2.cell 0
  have c1 := hz2.cell 1
  have f0 := hz2.frozen 0
  have f1 := hz2.frozen 1
  have hz4 := (hz2.set_ 0 (.slice (some ⟨g1, 0, none⟩) m.s.length m.s.length)).set_ 1 (.slice (some ⟨h1, 0, none⟩) m.c.length m.c.length)
  have e0 := hz4.cell 0
  have e1 := hz4.cell 1
  simp at c0 c1 e0 e1
  clear hb2 a0 a1 b0 b1
  have H12 := Lib.hid h12
  have Hz2 := Lib.hid hz2
  have Hz4 := Lib.hid hz4
  have HO := Lib.hid hO
  clear h12 hz2 hz4 hO
  go_wp2_with fail
  refine bodyPost_ret (v := .agg #[.slice (some ⟨g1, 0, none⟩) m.s.length m.s.length, .slice (some ⟨h1, 0, none⟩) m.c.length m.c.length]) (by simp [results, Tryz.results47, go_sem, e0, e1]) rfl ?_
  rw [HE.out]
  exact ten_fin HO.out (H01.out.trans H12.out) Hz2.out (by omega) hs1
 have d1 : ((g.c.length : Int) == 0) = false := by simpa using h0
 have q1 : ¬ (g.c.length : Int) = 0 := by omega
 obtain ⟨R, hR⟩ : ∃ R, Ly.add g m = R := ⟨_, rfl⟩
 have hcall := calls_goU (tensor_add GS GC MS MC c d c' d' g m w1 (HG.out.later H01.out) (HM.out.later H01.out)) Ly.add_none
 have he := show Pn.add g m = if R.2 = 0 then R.1 else g by unfold Pn.add; rw [if_neg h0, hR]
 rw [hR] at hcall
 clear h0
 have Hcall := Lib.hid hcall
 have HR := Lib.hid hR
 have He := Lib.hid he
 clear hcall hR he
 go_wp2_with fail
 refine (Hcall.out).mono ?_
 rintro e w2 ⟨S2, c2, C2, d2, rfl, hne, hok, hb2⟩
 have h12 : Later w1 w2 := hb2
 have h2a : Later w2 (w2.alloc (.cells #[.slice S2 R.1.s.length c2, .slice C2 R.1.c.length d2] 30)) := (Later.refl w2).alloc _
 have hya := Blk.new w2 30 #[.slice S2 R.1.s.length c2, .slice C2 R.1.c.length d2]
 have h1a := h12.trans h2a
 have hza := h1a.blk Hz.out
 have hka := h1a.blk Hk0.out
 have hoka := fun h => (hok h).later h2a
 clear a0 a1 b0 b1 hb2 hok hne
 have H12 := Lib.hid h12
 have H2a := Lib.hid h2a
 have Hya := Lib.hid hya
 have H1a := Lib.hid h1a
 have Hza := Lib.hid hza
 have Hka := Lib.hid hka
 have Hoka := Lib.hid hoka
 clear h12 h2a hya h1a hza hka hoka
 go_upto_region 4 with fail
 generalize w2.alloc (.cells #[.slice S2 R.1.s.length c2, .slice C2 R.1.c.length d2] 30) = w3 at *
 generalize w2.heap.size = yb at *
 by_cases hr : R.2 = 0
 ·have HE := Lib.hid (He.out.trans (if_pos hr))
  have d3 : (R.2 != 0) = false := by simp [hr]
  have hO := Hoka.out hr
  have y0 := Hya.out.cell 0
  have y1 := Hya.out.cell 1
  have c0 := Hza.out.cell 0
  have c1 := Hza.out.cell 1
  have f0 := Hza.out.frozen 0
  have f1 := Hza.out.frozen 1
  have hz4 := (Hza.out.set_ 0 (.slice S2 R.1.s.length c2)).set_ 1 (.slice C2 R.1.c.length d2)
  have e0 := hz4.cell 0
  have e1 := hz4.cell 1
  simp at c0 c1 e0 e1 y0 y1
  have Hz4 := Lib.hid hz4
  have HO := Lib.hid hO
  clear hz4 hO
  go_wp2_with fail
  refine bodyPost_ret (v := .agg #[.slice S2 R.1.s.length c2, .slice C2 R.1.c.length d2]) (by simp [results, Tryz.results47, go_sem, e0, e1]) rfl ?_
  rw [HE.out]
  exact ten_fin HO.out (H01.out.trans H1a.out) Hza.out (by omega) hs1
 ·have HE := Lib.hid (He.out.trans (if_neg hr))
  have d3 : (R.2 != 0) = true := by simpa using hr
  have a0 := Hka.out.cell 0
  have a1 := Hka.out.cell 1
  simp at a0 a1
  clear hr
  go_wp2_with fail
  refine (tensor_copy GS GC c d g w3 l1 l2 (HG.out.later (H01.out.trans H1a.out)).r).mono ?_
  rintro e w4 ⟨v, rfl, hN, hb4⟩
  have h34 : Later w3 w4 := hb4
  have hz2 := h34.blk Hza.out
  have hO := hN.o (B := w3.heap.size) (by omega) (by omega) HG.out.num
  obtain ⟨g1, h1, rfl, -, -, -, -⟩ := hN
  have c0 := hz2.cell 0
  have c1 := hz2.cell 1
  have f0 := hz2.frozen 0
  have f1 := hz2.frozen 1
  have hz4 := (hz2.set_ 0 (.slice (some ⟨g1, 0, none⟩) g.s.length g.s.length)).set_ 1 (.slice (some ⟨h1, 0, none⟩) g.c.length g.c.length)
  have e0 := hz4.cell 0
  have e1 := hz4.cell 1
  simp at c0 c1 e0 e1
  have hs3 := (H01.out.trans H1a.out).size
  clear hb4 a0 a1
  have H34 := Lib.hid h34
  have Hz2 := Lib.hid hz2
  have Hz4 := Lib.hid hz4
  have HO := Lib.hid hO
  clear h34 hz2 hz4 hO
  go_wp2_with fail
  refine bodyPost_ret (v := .agg #[.slice (some ⟨g1, 0, none⟩) g.s.length g.s.length, .slice (some ⟨h1, 0, none⟩) g.c.length g.c.length]) (by simp [results, Tryz.results47, go_sem, e0, e1]) rfl ?_
  rw [HE.out]
  exact ten_fin HO.out ((H01.out.trans H1a.out).trans H34.out) Hz2.out (by omega) hs3
end Go.Proofs.YtbnnpkcfifejmabGreat
