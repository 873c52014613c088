/- Lemmas for the statements of this seat: contracts of functions and the plain laws. -/
import Derived.Deep.AppendLies
import Derived.Test.YtbnnpkcfifejmabGreatRows
import Derived.Test.YtbnnpkcfifejmabGreatZ12
set_option linter.unusedVariables false
namespace Go.Proofs.YtbnnpkcfifejmabGreat
open Go.RowKit
def amop : OpD := ⟨5, 12884901888, 0, 0, 0, 0, 0, []⟩
def am : NetD := ⟨[1], [⟨amop, [0], []⟩]⟩
def amx : Ten := ⟨[1], [8589934592]⟩
def amy : Ten := ⟨[1], [25769803776]⟩
def am1 : Ten := ⟨[1], [4294967296]⟩
def amg : Ten := ⟨[1], [12884901888]⟩
theorem am_check : Nt.check am = 0 := by decide +kernel
theorem am_sorted : Nt.sorted am.nodes = [1] := by decide +kernel
theorem am_loss : lossE am = 1 := by decide +kernel
theorem am_fwd : Pn.forward am [] amx = ([amx, amy], 0) := by kernel_rfl
theorem am_fits : Pn.fits am [amx] amx = 20 := by decide +kernel
theorem am_back : Ly.back amop [] [amx] am1 = (⟨[], [amg]⟩, 0) := by kernel_rfl
theorem am_add : Pn.add Ly.none_ amg = amg := by kernel_rfl
theorem am_ok : am.ok := by
 refine ⟨by decide, by decide, fun v hv => ?_⟩
 simp [am] at hv
 subst hv
 exact ⟨by intro z hz; simp [amop] at hz; omega, by decide, by decide, by decide, by simp, by intro z hz; simp at hz; omega⟩
theorem am_part : Pn.part am 1 = (0, 0) := by decide +kernel
theorem am_pick : Pn.pickT [amx, amy] [0] = [amx] := by kernel_rfl
def RunAm (w : World) (e : Ending) (w' : World) : Prop :=
 ∃ gb S C sc cd, e = .returned (.tuple #[.agg #[.int .i64 25769803776, .slice gb 0 0, .slice S 1 sc, .slice C 1 cd], .int .i64 0]) ∧ TenIn w' S C sc cd amg ∧ Below w.heap.size w w'
theorem step_make_full {P : Program} {ops : Array Oper} {o : Oper} {a : Act} {K : Act → World → Prop} {Q : Exit → Act → World → Prop} {E : Prop} {w : World} (hg : o.guard = none) (l c : Operand) (t : TypeId) (hop : o.op = Op.makeSlice t l c)
  (base : Nat) (e : TypeId) (i : TypeInfo) (z : Value) (size : Nat) (h1 : P.underlying t = some (.slice e)) (h2 : P.info? e = some i) (h3 : i.zero = some z) (h4 : i.size = size)
  (kl kc : IntKind) (n : Nat) (hl : a.eval l = .int kl (n : Int)) (hc : a.eval c = .int kc (n : Int)) (b2 : i.bytes * n ≤ 281474976710656) (b3 : n ≤ maxLen) (b4 : base ≤ w.heap.size)
  (hK : ∀ w', w'.ownsRow base e size (.slice (some ⟨w.heap.size, 0, none⟩) n n) n (madeCells z.cells (n * size)).toList → w.grownBy w' none → K (a.put o.dst (.slice (some ⟨w.heap.size, 0, none⟩) n n)) w') :
  if Region.wanted o (yielded ops a.tmps) = true then Oper.wp P o a w K Q else E := by
 have hw : Region.wanted o (yielded ops a.tmps) = true := by simp [Region.wanted, hg]
 rw [if_pos hw]
 obtain ⟨w', hrun, r1, r2⟩ := run_make_full (P := P) w base t e i z size h1 h2 h3 h4 kl kc n b2 b3 b4
 unfold Oper.wp
 simp [execOp, hop, hl, hc, hrun, Result.andThen]
 exact hK w' r1 r2
theorem run_copy_zero {P : Program} (w : World) (t ty e : TypeId) (i : TypeInfo) (dp sp : Option Addr) (dc sc : Nat) (ht : P.underlying t = some (.slice e)) (hi : P.info? e = some i) :
  (Builtin.copy_ #[t, t] ty #[.slice dp 0 dc, .slice sp 0 sc]).run P w = .ok (goInt 0) w := by
 cases dp <;> cases sp <;> simp [Builtin.copy_, run_underlying ht, sizeOf, typeInfo, hi, Builtin.lenOf, Builtin.firstCells, loadCells, loadCellsFrom, storeCells]
theorem step_copy_zero {P : Program} {ops : Array Oper} {o : Oper} {a : Act} {w : World} {K : Act → World → Prop} {Q : Exit → Act → World → Prop} {E : Prop} (hgd : o.guard = none) (d s : Operand) (t : TypeId)
  (ho : o.op = .call { callee := .builtin .copy, args := #[d, s], argTypes := #[t, t] }) (e : TypeId) (i : TypeInfo) (hu : P.underlying t = some (.slice e)) (hi : P.info? e = some i)
  (dp sp : Option Addr) (dc sc : Nat) (hd : a.eval d = .slice dp 0 dc) (hs : a.eval s = .slice sp 0 sc) (h : K (a.put o.dst (goInt 0)) w) :
  if Region.wanted o (yielded ops a.tmps) = true then Oper.wp P o a w K Q else E := by
 have hw : Region.wanted o (yielded ops a.tmps) = true := by simp [Region.wanted, hgd]
 rw [if_pos hw]
 have hrun := run_copy_zero (P := P) w t o.type e i dp sp dc sc hu hi
 unfold Oper.wp
 simp [execOp, ho, resolve, invoke, builtin, hd, hs, hrun, Result.andThen]
 exact h
theorem ints_far {w : World} {A : Option Addr} {l : List Int} {p : Addr} (h : Ints .i64 w A l) (hA : ∀ a, A = some a → a.block ≠ p.block) (u : Value) : Ints .i64 (w.setCell p u) A l := fun j hj => by
 obtain ⟨b, off, e, hl, hc⟩ := h j hj
 exact ⟨b, off, e, by simpa using hl, (cell_same_block (Below.heap_setCell w p u b (hA _ e)) _).trans hc⟩
theorem TenIn.farC {w : World} {S C : Option Addr} {c d : Nat} {t : Ten} {p : Addr} (h : TenIn w S C c d t) (hS : ∀ a, S = some a → a.block ≠ p.block) (hC : ∀ a, C = some a → a.block ≠ p.block) (u : Value) : TenIn (w.setCell p u) S C c d t :=
 { h with r := ⟨ints_far h.r.1 hS u, ints_far h.r.2 hC u⟩ }
def RunCut (w0 : World) (a : Value) (wx : World) : Prop :=
 ∃ rb gb, a = .pointer (some ⟨rb, 0, none⟩) ∧ w0.heap.size ≤ rb ∧ Blk wx rb 63 #[.int .i64 25769803776, .slice (some ⟨gb, 0, none⟩) 0 0, .slice none 0 0, .slice none 0 0] ∧ Later w0 wx
def BkCut (w0 : World) (B : Nat) (a b : Value) (wx : World) : Prop :=
 ∃ PA XA tb, a = .pointer (some ⟨tb, 0, none⟩) ∧ b = .int .i64 0 ∧ Blk wx tb 105 #[.slice PA 0 0, .slice XA 1 1] ∧ TnsO B wx XA [amg] ∧ (∀ a, XA = some a → a.block ≠ tb) ∧ w0.heap.size ≤ tb ∧ Later w0 wx
set_option maxHeartbeats 16000000 in
set_option maxRecDepth 20000 in
theorem run_am (A N XS XC : Option Addr) (c d xc xd : Nat) (w : World) (hR : NetR w A N am) (hd : 1 ≤ d) (hX : TenIn w XS XC xc xd amx) :
  Calls Tryz.prog 18 #[.agg #[.slice A 1 c, .slice N 1 d], .slice none 0 0, .agg #[.slice XS 1 xc, .slice XC 1 xd]] w (RunAm w) := by
 have hkn := ((Blk.new w 26 #[.slice A 1 c, .slice N 1 d]).alloc (.cells #[.slice XS 1 xc, .slice XC 1 xd] 30)).alloc (.cells #[.int .i64 0, .slice none 0 0, .slice none 0 0, .slice none 0 0] 63)
 have hkx := (Blk.new (w.alloc (.cells #[.slice A 1 c, .slice N 1 d] 26)) 30 #[.slice XS 1 xc, .slice XC 1 xd]).alloc (.cells #[.int .i64 0, .slice none 0 0, .slice none 0 0, .slice none 0 0] 63)
 have hz := Blk.new ((w.alloc (.cells #[.slice A 1 c, .slice N 1 d] 26)).alloc (.cells #[.slice XS 1 xc, .slice XC 1 xd] 30)) 63 #[.int .i64 0, .slice none 0 0, .slice none 0 0, .slice none 0 0]
 simp only [World.size_alloc] at hkx hz
 have h01 : Later w (((w.alloc (.cells #[.slice A 1 c, .slice N 1 d] 26)).alloc (.cells #[.slice XS 1 xc, .slice XC 1 xd] 30)).alloc (.cells #[.int .i64 0, .slice none 0 0, .slice none 0 0, .slice none 0 0] 63)) := (((Later.refl w).alloc _).alloc _).alloc _
 have HR := Lib.hid hR
 have HX := Lib.hid hX
 have Hkn := Lib.hid hkn
 have Hkx := Lib.hid hkx
 have Hz := Lib.hid hz
 have H01 := Lib.hid h01
 clear hR hX hkn hkx hz h01
 go_enter Tryz.func18, Tryz.ntmps18
 go_upto_region 1 with fail
 generalize ((w.alloc (.cells #[.slice A 1 c, .slice N 1 d] 26)).alloc (.cells #[.slice XS 1 xc, .slice XC 1 xd] 30)).alloc (.cells #[.int .i64 0, .slice none 0 0, .slice none 0 0, .slice none 0 0] 63) = w1 at *
 have a0 := Hkn.out.cell 0
 have a1 := Hkn.out.cell 1
 have b0 := Hkx.out.cell 0
 have b1 := Hkx.out.cell 1
 simp at a0 a1 b0 b1
 have hcf : Calls Tryz.prog 7 #[.agg #[.slice A 1 c, .slice N 1 d], .slice none 0 0, .agg #[.slice XS 1 xc, .slice XC 1 xd]] w1 (FwdP ([amx, amy], 0) w1) := by
  have := plain_forward A N none XS XC c d 0 xc xd am [] amx w1 am_ok (HR.out.below H01.out (Nat.le_refl _)) hd (Tns.nil _ _) (by simp) (by simp) (by omega) (fun _ => rfl) (HX.out.later H01.out)
  rw [am_fwd] at this
  exact this
 have Hcf := Lib.hid hcf
 clear hcf
 go_wp2_with fail
 refine (Hcf.out).mono ?_
 rintro e w2 ⟨⟨hbad, -⟩ | ⟨-, G, rfl, hV⟩, hb2⟩
 ·exact absurd rfl hbad
 have h12 : Later w1 w2 := hb2
 have h02 := H01.out.trans h12
 have hk2 := h12.blk Hkn.out
 have hx2 := h12.blk Hkx.out
 have hz2 := h12.blk Hz.out
 have hVt := hV.tns
 obtain ⟨bv, S1, s1c, C1, c1c, eG, v0, v1, hT1⟩ := hV.2 1 (by decide)
 injection eG with eG
 injection eG with eG _ _
 subst eG
 have hy := hT1.ten
 replace v0 : w2.cell? ⟨G, 2, none⟩ = some (.slice S1 1 s1c) := v0
 replace v1 : w2.cell? ⟨G, 3, none⟩ = some (.slice C1 1 c1c) := v1
 clear hb2 a0 a1 b0 b1 hV hT1
 have a0 := hk2.cell 0
 have a1 := hk2.cell 1
 simp at a0 a1
 have hco := net_order A N c d am w2 am_ok (HR.out.below h02 (Nat.le_refl _)) hd
 have H12 := Lib.hid h12
 have H02 := Lib.hid h02
 have Hk2 := Lib.hid hk2
 have Hx2 := Lib.hid hx2
 have Hz2 := Lib.hid hz2
 have HVt := Lib.hid hVt
 have Hy := Lib.hid hy
 have Hv0 := Lib.hid v0
 have Hv1 := Lib.hid v1
 clear h12 h02 hk2 hx2 hz2 hVt hy v0 v1
 go_wp2_with fail
 refine (show Calls Tryz.prog 20 #[.agg #[.slice A 1 c, .slice N 1 d]] w2 (OrderP am w2) from hco).mono ?_
 rintro e w3 ⟨hb3, ⟨-, O, oc, rfl, hO, hO1, hO2⟩ | ⟨hbad, -⟩⟩
 rotate_left
 ·exact absurd am_check hbad
 rw [am_sorted] at hO
 have h23 : Later w2 w3 := hb3
 have h03 := H02.out.trans h23
 have hk3 := h23.blk Hk2.out
 have hz3 := h23.blk Hz2.out
 clear hb3 a0 a1 hco
 have a0 := hk3.cell 0
 have a1 := hk3.cell 1
 simp at a0 a1
 have hcl : Calls Tryz.prog 44 #[.agg #[.slice A 1 c, .slice N 1 d]] w3 fun e w' => e = .returned (.tuple #[.int .i64 1, .int .i64 0]) ∧ Below w3.heap.size w3 w' := by
  have := net_loss A N c d am w3 am_ok (HR.out.below h03 (Nat.le_refl _)) hd
  rw [am_loss, am_check] at this
  exact this
 rw [show am.nodes.length = 1 from rfl]
 have H23 := Lib.hid h23
 have H03 := Lib.hid h03
 have Hk3 := Lib.hid hk3
 have Hz3 := Lib.hid hz3
 have HO := Lib.hid hO
 have Hcl := Lib.hid hcl
 clear h23 h03 hk3 hz3 hO hcl
 go_wp2_with fail
 refine (Hcl.out).mono ?_
 rintro e w4 ⟨rfl, hb4⟩
 have h34 : Later w3 w4 := hb4
 have h04 := H03.out.trans h34
 have hk4 := h34.blk Hk3.out
 have hz4 := h34.blk Hz3.out
 have h24 := H23.out.trans h34
 clear hb4 a0 a1
 have hs4 := h04.size
 have H34 := Lib.hid h34
 have H04 := Lib.hid h04
 have Hk4 := Lib.hid hk4
 have Hz4 := Lib.hid hz4
 have H24 := Lib.hid h24
 clear h34 h04 hk4 hz4 h24
 obtain ⟨i0, hi, hy0, hy1, hy2⟩ := info_parts tenY_info
 go_wp2_with (at_make; refine wpList_make_full _ rfl _ _ 27 rfl w.heap.size 30 i0 (.agg #[.slice none 0 0, .slice none 0 0]) 2 Tryz.underlying27 hi hy0 hy1 _ _ _ _ 2 rfl rfl (by first | rfl | simp) (by first | rfl | simp) ?b2 ?b3 hs4 ?_)
 case b2 => rw [hy2]; omega
 case b3 => unfold maxLen; omega
 intro w5 hown hgrow
 clear hi hy0 hy1 hy2
 have hgr : Blk w5 w4.heap.size 30 #[.slice none 0 0, .slice none 0 0, .slice none 0 0, .slice none 0 0] := by
  have h := row_blk hown
  rw [made_tens] at h
  exact h
 have h45 : Later w4 w5 := (Below.refl _ w4).grown hgrow (Nat.le_refl _) (by simp)
 clear hown hgrow
 have h25 := H24.out.trans h45
 have p0 := h25.cell Hv0.out
 have hS1 := (Hy.out.later h25).r.1
 have Hgr := Lib.hid hgr
 have H45 := Lib.hid h45
 have H25 := Lib.hid h25
 have HS1 := Lib.hid hS1
 clear hgr h45 h25 hS1
 go_wp2_with fail
 refine (tensor_make S1 s1c [1] 4294967296 w5 (by decide) HS1.out).mono ?_
 rintro e w6 ⟨hmk, hb6⟩
 obtain ⟨⟨hbad, -⟩ | ⟨-, v, rfl, g, hh, rfl, hg, hh', hG, hH⟩, hb6⟩ := And.intro hmk hb6
 ·exact absurd hbad (by decide)
 have hG : Blk w6 g 3 #[.int .i64 1] := hG
 have hH : Blk w6 hh 43 #[.int .i64 4294967296] := hH
 have h56 : Later w5 w6 := hb6
 have h26 := H25.out.trans h56
 have h46 := H45.out.trans h56
 have hgr6 := h56.blk Hgr.out
 have hgl := Hgr.out.lt
 have n1 : g ≠ w4.heap.size := by omega
 have n2 : hh ≠ w4.heap.size := by omega
 have c2 := hgr6.cell 2
 have c3 := hgr6.cell 3
 have f2 := hgr6.frozen 2
 have f3 := hgr6.frozen 3
 simp at c2 c3
 have hgr7 := (hgr6.set_ 2 (.slice (some ⟨g, 0, none⟩) 1 1)).set_ 3 (.slice (some ⟨hh, 0, none⟩) 1 1)
 have h27 := (h26.set (p := ⟨w4.heap.size, 2, none⟩) (by have := H24.out.size; simp; omega) (.slice (some ⟨g, 0, none⟩) 1 1)).set (p := ⟨w4.heap.size, 3, none⟩) (by have := H24.out.size; simp; omega) (.slice (some ⟨hh, 0, none⟩) 1 1)
 have h47 := (h46.set (p := ⟨w4.heap.size, 2, none⟩) (Nat.le_refl _) (.slice (some ⟨g, 0, none⟩) 1 1)).set (p := ⟨w4.heap.size, 3, none⟩) (Nat.le_refl _) (.slice (some ⟨hh, 0, none⟩) 1 1)
 have hG7 := (hG.far (p := ⟨w4.heap.size, 2, none⟩) n1 (.slice (some ⟨g, 0, none⟩) 1 1)).far (p := ⟨w4.heap.size, 3, none⟩) n1 (.slice (some ⟨hh, 0, none⟩) 1 1)
 have hH7 := (hH.far (p := ⟨w4.heap.size, 2, none⟩) n2 (.slice (some ⟨g, 0, none⟩) 1 1)).far (p := ⟨w4.heap.size, 3, none⟩) n2 (.slice (some ⟨hh, 0, none⟩) 1 1)
 simp only [List.setIfInBounds_toArray, List.set_cons_succ, List.set_cons_zero] at hgr7
 obtain ⟨bc, oc2, rfl, -, yc⟩ := (Hy.out).cell (k := 0) (by decide)
 clear p0 hb6 hmk hG hH h26 h46 hgr6
 rw [show ([1] : List Int).length = 1 from rfl]
 have hp1 : (Safe.prod [1]).toNat = 1 := by decide
 have Hgr7 := Lib.hid hgr7
 have H27 := Lib.hid h27
 have H47 := Lib.hid h47
 have HG7 := Lib.hid hG7
 have HH7 := Lib.hid hH7
 have Hyc := Lib.hid yc
 clear hgr7 h27 h47 hG7 hH7 yc
 go_upto_region 14 with fail
 clear c2 c3 f2 f3 hp1
 generalize (w6.setCell ⟨w4.heap.size, 2, none⟩ (.slice (some ⟨g, 0, none⟩) 1 1)).setCell ⟨w4.heap.size, 3, none⟩ (.slice (some ⟨hh, 0, none⟩) 1 1) = w7 at *
 have v0 := H27.out.cell Hv0.out
 have v1 := H27.out.cell Hv1.out
 have y0 : w7.cell? ⟨bc, oc2, none⟩ = some (.int .i64 25769803776) := H27.out.cell Hyc.out
 go_cut [13] (RunCut w7)
 case first =>
  obtain ⟨i0, hi, hy0, hy3, hy2⟩ := info_parts tenY_info
  have gl1 : G < w7.heap.size := World.block_lt_of_cell? _ _ v1
  have gl2 : bc < w7.heap.size := World.block_lt_of_cell? _ _ y0
  have hs27 := H27.out.size
  have hs02 := H02.out.size
  have hi := Lib.hid hi
  have KF := Lib.hid (show ∀ Xw, Later w7 Xw → Xw.cell? ⟨G, 3, none⟩ = some (.slice (some ⟨bc, oc2, none⟩) 1 c1c) ∧ Xw.cell? ⟨bc, oc2, none⟩ = some (.int .i64 25769803776) from fun Xw h => ⟨h.cell v1, h.cell y0⟩)
  refine wp_region_noPanic ?_
  refine wp_region_held_drew (S := fun Xw => Xw.cell? ⟨G, 3, none⟩ = some (.slice (some ⟨bc, oc2, none⟩) 1 c1c) ∧ Xw.cell? ⟨bc, oc2, none⟩ = some (.int .i64 25769803776)) (by kernel_rfl) (KF.out _ Later.au) (fun hHeld => ?_)
  refine tk 0 ?_
  refine tk 1 ?_
  refine tk 2 ?_
  refine tk 3 ?_
  refine tk 4 ?_
  refine tk 5 ?_
  refine tk 6 ?_
  refine tk 7 ?_
  refine tk 8 ?_
  refine wpAnyH_ready (rs := [9, 11]) (by kernel_rfl) (by simp) ?_
  refine AllReadyH.cons (o := _) rfl (fun K hK => ?_) (AllReadyH.cons (o := _) rfl (fun K hK => ?_) (AllReadyH.nil))
  ·refine step_make_full (by rfl) _ _ 27 (by rfl) w.heap.size 30 i0 (.agg #[.slice none 0 0, .slice none 0 0]) 2 Tryz.underlying27 hi.out hy0 hy3 .i64 .i64 0 (by rfl) (by rfl) (by omega) (by unfold maxLen; omega) (by have := H27.out.size; first | omega | (simp; omega)) ?_
   intro w8 hown hgrow
   have hbm := (Below.refl _ _).grown hgrow (Nat.le_refl _) (by simp)
   refine hK.out _ _ (KF.out _ Later.au) (fun hHeld => ?_)
   clear hK K
   try simp only [ga, gs, gz, Act.put, sa, sz, ss]
   refine tk 10 ?_
   refine rd 11 fun K hK => ?_
   simp only [ga, gs, gz]
   go_simp
   refine hK.out _ _ (KF.out _ Later.au) (fun hHeld => ?_)
   clear hK K
   try simp only [ga, gs, gz, Act.put, sa, sz, ss]
   refine rd 12 fun K hK => ?_
   simp only [ga, gs, gz]
   go_simp
   refine hK.out _ _ ?_ (fun hHeld => ?_)
   ·(try dsimp only); (refine ⟨?_, ?_⟩ <;> (repeat (refine cell_setfar ?_ (by first | omega | (simp; done) | (simp; omega)))) <;> (refine Later.cell (Later.au : Later w7 _) ?_) <;> assumption)
   clear hK K
   try simp only [ga, gs, gz, Act.put, sa, sz, ss]
   clear KF
   refine wpAnyH_done (by kernel_rfl) ?_ _
   refine NoPanic.normal ?_
   have hl8 : Later w7 w8 := (Later.au : Later w7 w8)
   go_wp2_with fail
   go_meet
   exact ⟨w8.heap.size, _, rfl, hl8.size, Blk.new w8 _ _, hl8.alloc _⟩
  ·simp only [ga, gs, gz]
   go_simp
   refine hK.out _ _ (KF.out _ Later.au) (fun hHeld => ?_)
   clear hK K
   try simp only [ga, gs, gz, Act.put, sa, sz, ss]
   refine rd 9 fun K hK => ?_
   refine step_make_full (by rfl) _ _ 27 (by rfl) w.heap.size 30 i0 (.agg #[.slice none 0 0, .slice none 0 0]) 2 Tryz.underlying27 hi.out hy0 hy3 .i64 .i64 0 (by rfl) (by rfl) (by omega) (by unfold maxLen; omega) (by have := H27.out.size; first | omega | (simp; omega)) ?_
   intro w8 hown hgrow
   have hbm := (Below.refl _ _).grown hgrow (Nat.le_refl _) (by simp)
   have hbx := Blk.grown ((Blk.new w7 63 #[.int .i64 0, .slice none 0 0, .slice none 0 0, .slice none 0 0]).drew) hgrow (by simp)
   have k0 := hbx.cell 0
   have k1 := hbx.cell 1
   have k2 := hbx.cell 2
   have k3 := hbx.cell 3
   have kf0 := hbx.frozen 0
   have kf1 := hbx.frozen 1
   have kf2 := hbx.frozen 2
   have kf3 := hbx.frozen 3
   simp at k0 k1 k2 k3
   have Hbx := Lib.hid hbx
   clear hbx
   refine hK.out _ _ (KF.out _ Later.au) (fun hHeld => ?_)
   clear hK K
   try simp only [ga, gs, gz, Act.put, sa, sz, ss]
   refine tk 10 ?_
   refine rd 12 fun K hK => ?_
   simp only [ga, gs, gz]
   go_simp
   refine hK.out _ _ ?_ (fun hHeld => ?_)
   ·(try dsimp only); (refine ⟨?_, ?_⟩ <;> (repeat (refine cell_setfar ?_ (by first | omega | (simp; done) | (simp; omega)))) <;> (refine Later.cell (Later.au : Later w7 _) ?_) <;> assumption)
   clear hK K
   try simp only [ga, gs, gz, Act.put, sa, sz, ss]
   clear KF
   refine wpAnyH_done (by kernel_rfl) ?_ _
   refine NoPanic.normal ?_
   have hl8 : Later w7 w8 := (Later.au : Later w7 w8)
   go_wp2_with fail
   go_meet
   have hbs := (((Hbx.out.set_ 0 (.int .i64 25769803776)).set_ 1 (.slice (some ⟨w7.heap.size + 1, 0, none⟩) 0 0)).set_ 2 (.slice none 0 0)).set_ 3 (.slice none 0 0)
   exact ⟨w7.heap.size, w7.heap.size + 1, rfl, Nat.le_refl _, (by simpa using hbs), (((hl8.set (p := ⟨w7.heap.size, 0, none⟩) (Nat.le_refl _) _).set (p := ⟨w7.heap.size, 1, none⟩) (Nat.le_refl _) _).set (p := ⟨w7.heap.size, 2, none⟩) (Nat.le_refl _) _).set (p := ⟨w7.heap.size, 3, none⟩) (Nat.le_refl _) _⟩
 case rest =>
  obtain ⟨rb, gb, rfl, hrb, hRb, hlc⟩ := hcut
  have hgl7 := Hgr7.out.lt
  clear v0 v1 y0
  have hgr8 := hlc.blk Hgr7.out
  have hG8 := hlc.blk HG7.out
  have hH8 := hlc.blk HH7.out
  have h48 := H47.out.trans hlc
  have h28 := H27.out.trans hlc
  have h08 := H02.out.trans h28
  have hO8 := HO.out.below (H34.out.trans h48) (Nat.le_refl _)
  have hk8 := h28.blk Hk2.out
  have hz8 := h28.blk Hz2.out
  have hV8 := HVt.out.later h28
  obtain ⟨bo, oo, rfl, -, co⟩ := hO8 0 (by decide)
  replace co : wc.cell? ⟨bo, oo, none⟩ = some (.int .i64 1) := co
  obtain ⟨bn, on, Sn, sc, J, ic, Q, qc, rfl, hNA, -, -, -⟩ := (HR.out.below h08 (Nat.le_refl _)).2.at_ (j := 0) (by decide)
  obtain ⟨⟨y0, y1, y2, y3, y4, y5, y6, y7, y8, y9⟩, hIs, hIi, hIp⟩ := hNA
  replace y0 : wc.cell? ⟨bn, on, none⟩ = some (.int .i64 5) := y0
  replace y1 : wc.cell? ⟨bn, on + 1, none⟩ = some (.int .i64 12884901888) := y1
  replace y2 : wc.cell? ⟨bn, on + 2, none⟩ = some (.int .i64 0) := y2
  replace y3 : wc.cell? ⟨bn, on + 3, none⟩ = some (.int .i64 0) := y3
  replace y4 : wc.cell? ⟨bn, on + 4, none⟩ = some (.int .i64 0) := y4
  replace y5 : wc.cell? ⟨bn, on + 5, none⟩ = some (.int .i64 0) := y5
  replace y6 : wc.cell? ⟨bn, on + 6, none⟩ = some (.int .i64 0) := y6
  replace y7 : wc.cell? ⟨bn, on + 7, none⟩ = some (.slice Sn 0 sc) := y7
  replace y8 : wc.cell? ⟨bn, on + 8, none⟩ = some (.slice J 1 ic) := y8
  replace y9 : wc.cell? ⟨bn, on + 9, none⟩ = some (.slice Q 0 qc) := y9
  have a0 := hk8.cell 0
  have a1 := hk8.cell 1
  simp at a0 a1
  have hbn := World.block_lt_of_cell? _ _ y0
  have hlb := (Later.refl wc).alloc (.cells #[.int .i64 5, .int .i64 12884901888, .int .i64 0, .int .i64 0, .int .i64 0, .int .i64 0, .int .i64 0, .slice Sn 0 sc, .slice J 1 ic, .slice Q 0 qc] 47)
  have hbx := Blk.new wc 47 #[.int .i64 5, .int .i64 12884901888, .int .i64 0, .int .i64 0, .int .i64 0, .int .i64 0, .int .i64 0, .slice Sn 0 sc, .slice J 1 ic, .slice Q 0 qc]
  clear Hgr7 HG7 HH7 H27
  have HRb := Lib.hid hRb
  have Hlc := Lib.hid hlc
  have Hgr8 := Lib.hid hgr8
  have HG8 := Lib.hid hG8
  have HH8 := Lib.hid hH8
  have H48 := Lib.hid h48
  have H28 := Lib.hid h28
  have H08 := Lib.hid h08
  have Hk8 := Lib.hid hk8
  have Hz8 := Lib.hid hz8
  have HV8 := Lib.hid hV8
  have HIs := Lib.hid hIs
  have HIi := Lib.hid hIi
  have HIp := Lib.hid hIp
  have Hlb := Lib.hid hlb
  have Hbx := Lib.hid hbx
  clear hRb hlc hgr8 hG8 hH8 h48 h28 h08 hk8 hz8 hV8 hIs hIi hIp hlb hbx
  go_upto_region 15 with fail
  go_wp2_with fail
  refine wp_loop_rounds 2 ?_
  rw [rounds_succ]
  go_upto_region 20 with fail
  generalize wc.alloc (.cells #[.int .i64 5, .int .i64 12884901888, .int .i64 0, .int .i64 0, .int .i64 0, .int .i64 0, .int .i64 0, .slice Sn 0 sc, .slice J 1 ic, .slice Q 0 qc] 47) = wb at *
  have hlw := H08.out.trans Hlb.out
  have hcp : Calls Tryz.prog 22 #[.agg #[.slice A 1 c, .slice (some ⟨bn, on, none⟩) 1 d], .int .i64 1] wb fun e w' => e = .returned (.tuple #[.int .i64 0, .int .i64 0]) ∧ Below wb.heap.size wb w' := by
   have := plain_part A (some ⟨bn, on, none⟩) c d am 1 wb am_ok (HR.out.below hlw (Nat.le_refl _)) hd (by omega) (by omega)
   rw [am_part] at this
   exact this
  have hkb := Hlb.out.blk Hk8.out
  clear a0 a1 y0 y1 y2 y3 y4 y5 y6 y7 y8 y9 co
  have a0 := hkb.cell 0
  have a1 := hkb.cell 1
  simp at a0 a1
  have Hlw := Lib.hid hlw
  have Hcp := Lib.hid hcp
  have Hkb := Lib.hid hkb
  clear hlw hcp hkb
  go_wp2_with fail
  refine (Hcp.out).mono ?_
  rintro e wp ⟨rfl, hbp⟩
  have hbp' : Later wb wp := hbp
  have hcwp := Hlb.out.trans hbp'
  have h0p := Hlw.out.trans hbp'
  have hboxp := hbp'.blk Hbx.out
  have hgrp := hcwp.blk Hgr8.out
  have hGp := hcwp.blk HG8.out
  have hHp := hcwp.blk HH8.out
  have hVp := HV8.out.later hcwp
  have hwsp := h0p.size
  have hwr : wc.heap.size < wp.heap.size := hboxp.lt
  have hw4 : w4.heap.size < wp.heap.size := hgrp.lt
  have hpick : ∀ (W : World), Later wp W → Calls Tryz.prog 23 #[.slice (some ⟨G, 0, none⟩) 2 2, .slice J 1 ic] W (PickP [amx] W) := fun W h => by
   have := plain_pick (some ⟨G, 0, none⟩) J 2 ic [amx, amy] [0] W (hVp.later h) (by decide) (HIi.out.below (hcwp.trans h) (Nat.le_refl _)) (by decide) (by intro i hi; simp at hi; subst hi; decide)
   rw [am_pick] at this
   exact this
  have hbk : ∀ (W : World) (h : Later wp W) (V : World) (Kp : Nat) (hK : Tns V (some ⟨Kp, 0, none⟩) [amx]) (hV : Later V W) (PP : Option Addr) (pc : Nat), Calls Tryz.prog 46 #[.agg #[.int .i64 5, .int .i64 12884901888, .int .i64 0, .int .i64 0, .int .i64 0, .int .i64 0, .int .i64 0, .slice Sn 0 sc], .slice PP 0 pc, .slice (some ⟨Kp, 0, none⟩) 1 1, .agg #[.slice (some ⟨g, 0, none⟩) 1 1, .slice (some ⟨hh, 0, none⟩) 1 1]] W (GoB (⟨[], [amg]⟩, 0) W) := fun W h V Kp hK hV PP pc => by
   have hl := hcwp.trans h
   have := op_back7 amop Sn PP (some ⟨Kp, 0, none⟩) (some ⟨g, 0, none⟩) (some ⟨hh, 0, none⟩) sc pc 1 1 1 [] [amx] am1 W (by decide) (by decide) (HIs.out.below hl (Nat.le_refl _)) (show Fx.In 12884901888 by unfold Fx.In; omega) (hK.later hV) (by decide) ⟨⟨(h.blk hGp).intsL [1], (h.blk hHp).intsL [4294967296]⟩, by decide, by omega, by decide, by omega, by decide, by decide, by intro z hz; simp [am1] at hz; subst hz; unfold Fx.In; omega⟩
   rw [am_back] at this
   exact this
  have x0 := hboxp.cell 0
  have x1 := hboxp.cell 1
  have x2 := hboxp.cell 2
  have x3 := hboxp.cell 3
  have x4 := hboxp.cell 4
  have x5 := hboxp.cell 5
  have x6 := hboxp.cell 6
  have x7 := hboxp.cell 7
  have x8 := hboxp.cell 8
  have c2 := hgrp.cell 2
  have c3 := hgrp.cell 3
  simp at x0 x1 x2 x3 x4 x5 x6 x7 x8 c2 c3
  clear hbp a0 a1
  have hRbp := hcwp.blk HRb.out
  have hIip := HIi.out.below hcwp (Nat.le_refl _)
  have hzp := hcwp.blk Hz8.out
  have Hbp' := Lib.hid hbp'
  have Hcwp := Lib.hid hcwp
  have H0p := Lib.hid h0p
  have Hboxp := Lib.hid hboxp
  have Hgrp := Lib.hid hgrp
  have HGp := Lib.hid hGp
  have HHp := Lib.hid hHp
  have HVp := Lib.hid hVp
  have Hpick := Lib.hid hpick
  have Hbk := Lib.hid hbk
  have HRbp := Lib.hid hRbp
  have HIip := Lib.hid hIip
  have Hzp := Lib.hid hzp
  clear hbp' hcwp h0p hboxp hgrp hGp hHp hVp hpick hbk hRbp hIip hzp
  clear HIi HIs HIp Hlb Hbx
  generalize wc.heap.size = nb at *
  go_upto_region 21 with fail
  go_cut [19, 20] (BkCut wp w.heap.size)
  case first =>
   go_wp2_with fail
   have KF := Lib.hid (show ∀ Xw, Later wp Xw → Xw.cell? ⟨nb, 0, none⟩ = some (.int .i64 5) ∧ Xw.cell? ⟨nb, 1, none⟩ = some (.int .i64 12884901888) ∧ Xw.cell? ⟨nb, 2, none⟩ = some (.int .i64 0) ∧ Xw.cell? ⟨nb, 3, none⟩ = some (.int .i64 0) ∧ Xw.cell? ⟨nb, 4, none⟩ = some (.int .i64 0) ∧ Xw.cell? ⟨nb, 5, none⟩ = some (.int .i64 0) ∧ Xw.cell? ⟨nb, 6, none⟩ = some (.int .i64 0) ∧ Xw.cell? ⟨nb, 7, none⟩ = some (.slice Sn 0 sc) ∧ Xw.cell? ⟨nb, 8, none⟩ = some (.slice J 1 ic) ∧ Xw.cell? ⟨w4.heap.size, 2, none⟩ = some (.slice (some ⟨g, 0, none⟩) 1 1) ∧ Xw.cell? ⟨w4.heap.size, 3, none⟩ = some (.slice (some ⟨hh, 0, none⟩) 1 1) from fun Xw h => ⟨h.cell x0, h.cell x1, h.cell x2, h.cell x3, h.cell x4, h.cell x5, h.cell x6, h.cell x7, h.cell x8, h.cell c2, h.cell c3⟩)
   refine wp_region_noPanic ?_
   refine wp_region_held_drew (S := fun Xw => Xw.cell? ⟨nb, 0, none⟩ = some (.int .i64 5) ∧ Xw.cell? ⟨nb, 1, none⟩ = some (.int .i64 12884901888) ∧ Xw.cell? ⟨nb, 2, none⟩ = some (.int .i64 0) ∧ Xw.cell? ⟨nb, 3, none⟩ = some (.int .i64 0) ∧ Xw.cell? ⟨nb, 4, none⟩ = some (.int .i64 0) ∧ Xw.cell? ⟨nb, 5, none⟩ = some (.int .i64 0) ∧ Xw.cell? ⟨nb, 6, none⟩ = some (.int .i64 0) ∧ Xw.cell? ⟨nb, 7, none⟩ = some (.slice Sn 0 sc) ∧ Xw.cell? ⟨nb, 8, none⟩ = some (.slice J 1 ic) ∧ Xw.cell? ⟨w4.heap.size, 2, none⟩ = some (.slice (some ⟨g, 0, none⟩) 1 1) ∧ Xw.cell? ⟨w4.heap.size, 3, none⟩ = some (.slice (some ⟨hh, 0, none⟩) 1 1)) (by kernel_rfl) (KF.out _ Later.au) (fun hHeld => ?_)
   refine tk 0 ?_
   refine tk 1 ?_
   refine tk 2 ?_
   refine tk 3 ?_
   refine tk 4 ?_
   refine tk 5 ?_
   refine tk 6 ?_
   refine tk 7 ?_
   refine tk 8 ?_
   refine tk 10 ?_
   refine tk 11 ?_
   refine tk 12 ?_
   refine tk 13 ?_
   refine wpAnyH_ready (rs := [9, 18]) (by kernel_rfl) (by simp) ?_
   refine AllReadyH.cons (o := _) rfl (fun K hK => ?_) (AllReadyH.cons (o := _) rfl (fun K hK => ?_) (AllReadyH.nil))
   ·simp only [ga, gs, gz]
    go_simp
    go_at_call 23; (with_reducible refine (Hpick.out _ (Later.au : Later wp _)).mono ?_); rintro e wk ⟨Kp, rfl, -, hKp, hbk⟩
    have HKp := Lib.hid hKp
    clear hKp
    have hLk : Later wp wk := (Later.au : Later wp wk)
    have HLk := Lib.hid hLk
    clear hLk
    try go_wp2_with fail
    refine hK.out _ _ (KF.out _ Later.au) (fun hHeld => ?_)
    clear hK K
    try simp only [ga, gs, gz, Act.put, sa, sz, ss]
    refine wpAnyH_ready (rs := [14, 18]) (by kernel_rfl) (by simp) ?_
    refine AllReadyH.cons (o := _) rfl (fun K hK => ?_) (AllReadyH.cons (o := _) rfl (fun K hK => ?_) (AllReadyH.nil))
    ·simp only [ga, gs, gz]
     go_simp
     go_at_call 46; (with_reducible refine (Hbk.out _ (Later.au : Later wp _) wk Kp HKp.out (Later.au : Later wk _) _ _).mono ?_); rintro e wg ⟨⟨hbad, -⟩ | ⟨-, PA, XA, rfl, -, hXA⟩, hbg⟩
     exact absurd rfl hbad
     have HXA := Lib.hid hXA
     clear hXA
     have hwk := HLk.out.size
     try go_wp2_with fail
     refine hK.out _ _ (KF.out _ Later.au) (fun hHeld => ?_)
     clear hK K
     try simp only [ga, gs, gz, Act.put, sa, sz, ss]
     refine tk 15 ?_
     refine tk 16 ?_
     refine tk 17 ?_
     refine rd 18 fun K hK => ?_
     simp only [ga, gs, gz]
     go_simp
     refine hK.out _ _ (KF.out _ Later.au) (fun hHeld => ?_)
     clear hK K
     try simp only [ga, gs, gz, Act.put, sa, sz, ss]
     refine rd 19 fun K hK => ?_
     simp only [ga, gs, gz]
     go_simp
     refine hK.out _ _ ?_ (fun hHeld => ?_)
     ·(try dsimp only); (refine ⟨?_, ?_, ?_, ?_, ?_, ?_, ?_, ?_, ?_, ?_, ?_⟩ <;> (repeat (refine cell_setfar ?_ (by first | omega | (simp; done) | (simp; omega)))) <;> (refine Later.cell (Later.au : Later wp _) ?_) <;> assumption)
     clear hK K
     try simp only [ga, gs, gz, Act.put, sa, sz, ss]
     refine tk 20 ?_
     clear KF
     refine wpAnyH_done (by kernel_rfl) ?_ _
     refine NoPanic.normal ?_
     have hlg0 := hbg.size
     go_wp2_with fail
     have hlg : Later wp wg := (Later.au : Later wp wg)
     go_meet
     exact ⟨PA, XA, wg.heap.size, rfl, rfl, Blk.new wg _ _, (HXA.out.base (Nat.le_trans hwsp hwk)).later ((Later.refl wg).alloc _), (fun a e => by obtain ⟨b', h1, -, h3, -⟩ := HXA.out.1 a e; rw [h1]; show b' ≠ _; omega), Nat.le_trans hwk hlg0, hlg.alloc _⟩
    ·simp only [ga, gs, gz]
     go_simp
     refine hK.out _ _ (KF.out _ Later.au) (fun hHeld => ?_)
     clear hK K
     try simp only [ga, gs, gz, Act.put, sa, sz, ss]
     refine rd 14 fun K hK => ?_
     simp only [ga, gs, gz]
     go_simp
     go_at_call 46; (with_reducible refine (Hbk.out _ (Later.au : Later wp _) wk Kp HKp.out (Later.au : Later wk _) _ _).mono ?_); rintro e wg ⟨⟨hbad, -⟩ | ⟨-, PA, XA, rfl, -, hXA⟩, hbg⟩
     exact absurd rfl hbad
     have HXA := Lib.hid hXA
     clear hXA
     have hwk := HLk.out.size
     have hbz := (show Later (wk.alloc (.cells #[.slice none 0 0, .slice none 0 0] 105)) wg from hbg).blk (Blk.new wk _ _)
     have b0' := hbz.cell 0
     have b1' := hbz.cell 1
     have bf0 := hbz.frozen 0
     have bf1 := hbz.frozen 1
     simp at b0' b1'
     have Hbz := Lib.hid hbz
     clear hbz
     try go_wp2_with fail
     refine hK.out _ _ (KF.out _ Later.au) (fun hHeld => ?_)
     clear hK K
     try simp only [ga, gs, gz, Act.put, sa, sz, ss]
     refine tk 15 ?_
     refine tk 16 ?_
     refine tk 17 ?_
     refine rd 19 fun K hK => ?_
     simp only [ga, gs, gz]
     go_simp
     refine hK.out _ _ ?_ (fun hHeld => ?_)
     ·(try dsimp only); (refine ⟨?_, ?_, ?_, ?_, ?_, ?_, ?_, ?_, ?_, ?_, ?_⟩ <;> (repeat (refine cell_setfar ?_ (by first | omega | (simp; done) | (simp; omega)))) <;> (refine Later.cell (Later.au : Later wp _) ?_) <;> assumption)
     clear hK K
     try simp only [ga, gs, gz, Act.put, sa, sz, ss]
     refine tk 20 ?_
     clear KF
     refine wpAnyH_done (by kernel_rfl) ?_ _
     refine NoPanic.normal ?_
     have hwk2 := hbk.size
     (try simp at hwk2)
     go_wp2_with fail
     have hlg : Later wp wg := (Later.au : Later wp wg)
     have hb5 := (Hbz.out.set_ 0 (.slice PA 0 0)).set_ 1 (.slice XA 1 1)
     go_meet
     exact ⟨PA, XA, wk.heap.size, rfl, rfl, (by simpa using hb5), (HXA.out.base (by first | omega | (simp; omega))).box Hbz.out (fun a e => by obtain ⟨b', h1, h2, -, -⟩ := HXA.out.1 a e; rw [h1]; show b' ≠ _; (first | omega | ((try simp at h2); omega))) _ _, (fun a e => by obtain ⟨b', h1, h2, -, -⟩ := HXA.out.1 a e; rw [h1]; show b' ≠ _; (first | omega | ((try simp at h2); omega))), (by first | omega | exact hwk | exact Nat.le_refl _), (hlg.set (p := ⟨wk.heap.size, 0, none⟩) (by first | omega | (simp; done) | (simp; omega)) _).set (p := ⟨wk.heap.size, 1, none⟩) (by first | omega | (simp; done) | (simp; omega)) _⟩
   ·simp only [ga, gs, gz]
    go_simp
    refine hK.out _ _ (KF.out _ Later.au) (fun hHeld => ?_)
    clear hK K
    try simp only [ga, gs, gz, Act.put, sa, sz, ss]
    refine rd 9 fun K hK => ?_
    simp only [ga, gs, gz]
    go_simp
    go_at_call 23; (with_reducible refine (Hpick.out _ (Later.au : Later wp _)).mono ?_); rintro e wk ⟨Kp, rfl, -, hKp, hbk⟩
    have HKp := Lib.hid hKp
    clear hKp
    have hLk : Later wp wk := (Later.au : Later wp wk)
    have HLk := Lib.hid hLk
    clear hLk
    try go_wp2_with fail
    refine hK.out _ _ (KF.out _ Later.au) (fun hHeld => ?_)
    clear hK K
    try simp only [ga, gs, gz, Act.put, sa, sz, ss]
    refine rd 14 fun K hK => ?_
    simp only [ga, gs, gz]
    go_simp
    go_at_call 46; (with_reducible refine (Hbk.out _ (Later.au : Later wp _) wk Kp HKp.out (Later.au : Later wk _) _ _).mono ?_); rintro e wg ⟨⟨hbad, -⟩ | ⟨-, PA, XA, rfl, -, hXA⟩, hbg⟩
    exact absurd rfl hbad
    have HXA := Lib.hid hXA
    clear hXA
    have hwk := HLk.out.size
    have hbz := (show Later wk wg from hbg).blk ((show Later _ wk from hbk).blk ((Blk.new wp 105 #[.slice none 0 0, .slice none 0 0]).drew))
    have b0' := hbz.cell 0
    have b1' := hbz.cell 1
    have bf0 := hbz.frozen 0
    have bf1 := hbz.frozen 1
    simp at b0' b1'
    have Hbz := Lib.hid hbz
    clear hbz
    try go_wp2_with fail
    refine hK.out _ _ (KF.out _ Later.au) (fun hHeld => ?_)
    clear hK K
    try simp only [ga, gs, gz, Act.put, sa, sz, ss]
    refine tk 15 ?_
    refine tk 16 ?_
    refine tk 17 ?_
    refine rd 19 fun K hK => ?_
    simp only [ga, gs, gz]
    go_simp
    refine hK.out _ _ ?_ (fun hHeld => ?_)
    ·(try dsimp only); (refine ⟨?_, ?_, ?_, ?_, ?_, ?_, ?_, ?_, ?_, ?_, ?_⟩ <;> (repeat (refine cell_setfar ?_ (by first | omega | (simp; done) | (simp; omega)))) <;> (refine Later.cell (Later.au : Later wp _) ?_) <;> assumption)
    clear hK K
    try simp only [ga, gs, gz, Act.put, sa, sz, ss]
    refine tk 20 ?_
    clear KF
    refine wpAnyH_done (by kernel_rfl) ?_ _
    refine NoPanic.normal ?_
    have hwk2 := hbk.size
    (try simp at hwk2)
    go_wp2_with fail
    have hlg : Later wp wg := (Later.au : Later wp wg)
    have hb5 := (Hbz.out.set_ 0 (.slice PA 0 0)).set_ 1 (.slice XA 1 1)
    go_meet
    exact ⟨PA, XA, wp.heap.size, rfl, rfl, (by simpa using hb5), (HXA.out.base (by first | omega | (simp; omega))).box Hbz.out (fun a e => by obtain ⟨b', h1, h2, -, -⟩ := HXA.out.1 a e; rw [h1]; show b' ≠ _; (first | omega | ((try simp at h2); omega))) _ _, (fun a e => by obtain ⟨b', h1, h2, -, -⟩ := HXA.out.1 a e; rw [h1]; show b' ≠ _; (first | omega | ((try simp at h2); omega))), (by first | omega | exact hwk | exact Nat.le_refl _), (hlg.set (p := ⟨wp.heap.size, 0, none⟩) (by first | omega | (simp; done) | (simp; omega)) _).set (p := ⟨wp.heap.size, 1, none⟩) (by first | omega | (simp; done) | (simp; omega)) _⟩
  case rest =>
   obtain ⟨PA, XA, tb, rfl, rfl, hTb, hXA, hXn, htb, hlz⟩ := hcut
   have hgrz := hlz.blk Hgrp.out
   have hRz := hlz.blk HRbp.out
   have hbxz := hlz.blk Hboxp.out
   have hIiz := HIip.out.below hlz (Nat.le_refl _)
   have hzz := hlz.blk Hzp.out
   have h0z := H0p.out.trans hlz
   clear c2 c3 x0 x1 x2 x3 x4 x5 x6 x7 x8
   have t0 := hTb.cell 0
   have t1 := hTb.cell 1
   have r1 := hRz.cell 1
   have x8 := hbxz.cell 8
   simp at t0 t1 r1 x8
   obtain ⟨i0, hi0, -, -, -⟩ := info_parts tenY_info
   obtain ⟨bj, oj, rfl, -, cj⟩ := hIiz 0 (by decide)
   have Hi0 := Lib.hid hi0
   clear hi0
   replace cj : wc.cell? ⟨bj, oj, none⟩ = some (.int .i64 0) := cj
   have Hgrz := Lib.hid hgrz
   have HRz := Lib.hid hRz
   have Hbxz := Lib.hid hbxz
   have Hzz := Lib.hid hzz
   have H0z := Lib.hid h0z
   have HTb := Lib.hid hTb
   have HXA := Lib.hid hXA
   have HXn := Lib.hid hXn
   have Hlz := Lib.hid hlz
   clear hgrz hRz hbxz hzz h0z hTb hXA hXn hlz
   clear hIiz
   go_wp2_with fail
   have KF := Lib.hid (show ∀ Xw, Later wc Xw → Xw.cell? ⟨rb, 1, none⟩ = some (.slice (some ⟨gb, 0, none⟩) 0 0) ∧ Xw.cell? ⟨tb, 0, none⟩ = some (.slice PA 0 0) from fun Xw h => ⟨h.cell r1, h.cell t0⟩)
   refine wp_region_noPanic ?_
   refine wp_region_held_drew (S := fun Xw => Xw.cell? ⟨rb, 1, none⟩ = some (.slice (some ⟨gb, 0, none⟩) 0 0) ∧ Xw.cell? ⟨tb, 0, none⟩ = some (.slice PA 0 0)) (by kernel_rfl) (KF.out _ Later.au) (fun hHeld => ?_)
   refine tk 0 ?_
   refine tk 1 ?_
   refine tk 2 ?_
   refine tk 3 ?_
   refine tk 4 ?_
   refine tk 5 ?_
   refine tk 6 ?_
   refine rd 7 fun K hK => ?_
   refine step_copy_zero (by rfl) _ _ 27 (by rfl) 30 i0 Tryz.underlying27 Hi0.out _ _ _ _ (by rfl) (by rfl) ?_
   refine hK.out _ _ (KF.out _ Later.au) (fun hHeld => ?_)
   clear hK K
   try simp only [ga, gs, gz, Act.put, sa, sz, ss]
   clear KF
   refine wpAnyH_done (by kernel_rfl) ?_ _
   refine NoPanic.normal ?_
   go_wp2_with fail
   refine wp_loop_rounds 2 ?_
   rw [rounds_succ]
   obtain ⟨xb, Sg, sgc, Cg, cgd, hXe, q0, q1, hgO⟩ := HXA.out.2 0 (by decide)
   subst hXe
   replace q0 : wc.cell? ⟨xb, 0, none⟩ = some (.slice Sg 1 sgc) := q0
   replace q1 : wc.cell? ⟨xb, 1, none⟩ = some (.slice Cg 1 cgd) := q1
   have hgT := hgO.ten
   have c0 := Hgrz.out.cell 0
   have c1 := Hgrz.out.cell 1
   simp at c0 c1
   have hw4c : w4.heap.size < wc.heap.size := Hgrz.out.lt
   have hxw : xb ≠ w4.heap.size := by
    rintro rfl
    rw [c0] at q0
    injection q0 with q0
    injection q0 with _ q0 _
    cases q0
   have htw : tb ≠ w4.heap.size := by omega
   have hadd : ∀ (W : World), Later wc W → Calls Tryz.prog 47 #[.agg #[.slice none 0 0, .slice none 0 0], .agg #[.slice Sg 1 sgc, .slice Cg 1 cgd]] W (TenR1 amg W) := fun W h => by
    have := plain_add none none Sg Cg 0 0 sgc cgd Ly.none_ amg W (teno_none 0 W).ten (hgT.later h) (by decide) (by decide) (by decide) (by decide)
    rw [am_add] at this
    exact this
   clear hgO
   have Hadd := Lib.hid hadd
   have HgT := Lib.hid hgT
   clear hadd hgT
   go_wp2_with fail
   have KF := Lib.hid (show ∀ Xw, Later wc Xw → Xw.cell? ⟨tb, 1, none⟩ = some (.slice (some ⟨xb, 0, none⟩) 1 1) ∧ Xw.cell? ⟨xb, 0, none⟩ = some (.slice Sg 1 sgc) ∧ Xw.cell? ⟨xb, 1, none⟩ = some (.slice Cg 1 cgd) from fun Xw h => ⟨h.cell t1, h.cell q0, h.cell q1⟩)
   refine wp_region_noPanic ?_
   refine wp_region_held_drew (S := fun Xw => Xw.cell? ⟨tb, 1, none⟩ = some (.slice (some ⟨xb, 0, none⟩) 1 1) ∧ Xw.cell? ⟨xb, 0, none⟩ = some (.slice Sg 1 sgc) ∧ Xw.cell? ⟨xb, 1, none⟩ = some (.slice Cg 1 cgd)) (by kernel_rfl) (KF.out _ Later.au) (fun hHeld => ?_)
   refine tk 0 ?_
   refine tk 1 ?_
   refine tk 2 ?_
   refine tk 3 ?_
   refine tk 4 ?_
   refine tk 6 ?_
   refine tk 7 ?_
   refine tk 8 ?_
   refine tk 9 ?_
   refine tk 10 ?_
   refine rd 5 fun K hK => ?_
   simp only [ga, gs, gz]
   go_simp
   refine hK.out _ _ (KF.out _ Later.au) (fun hHeld => ?_)
   clear hK K
   try simp only [ga, gs, gz, Act.put, sa, sz, ss]
   refine rd 11 fun K hK => ?_
   simp only [ga, gs, gz]
   go_simp
   go_at_call 47; (with_reducible refine (Hadd.out _ (Later.au : Later wc _)).mono ?_); rintro e wg ⟨v, rfl, ⟨S3, c3, C3, d3, rfl, hTi, hS3, hC3⟩, hbg⟩
   rw [show amg.s.length = 1 from rfl, show amg.c.length = 1 from rfl]
   have hlg : Later wc wg := (Later.au : Later wc wg)
   have c0' := hlg.cell c0
   have c1' := hlg.cell c1
   have hgrg := hlg.blk Hgrz.out
   have bf0 := hgrg.frozen 0
   have bf1 := hgrg.frozen 1
   have Hgrg := Lib.hid hgrg
   have Hlg := Lib.hid hlg
   have HTi := Lib.hid hTi
   have HS3 := Lib.hid hS3
   have HC3 := Lib.hid hC3
   clear hgrg hlg hTi hS3 hC3
   try go_wp2_with fail
   refine hK.out _ _ (KF.out _ Later.au) (fun hHeld => ?_)
   clear hK K
   try simp only [ga, gs, gz, Act.put, sa, sz, ss]
   refine tk 12 ?_
   refine rd 13 fun K hK => ?_
   simp only [ga, gs, gz]
   go_simp
   refine hK.out _ _ ?_ (fun hHeld => ?_)
   ·(try dsimp only); (refine ⟨?_, ?_, ?_⟩ <;> (repeat (refine cell_setfar ?_ (by first | omega | (simp; done) | (simp; omega)))) <;> (refine Later.cell (Later.au : Later wc _) ?_) <;> assumption)
   clear hK K
   try simp only [ga, gs, gz, Act.put, sa, sz, ss]
   clear KF
   refine wpAnyH_done (by kernel_rfl) ?_ _
   refine NoPanic.normal ?_
   have hRg := Hlg.out.blk HRz.out
   have hzg := Hlg.out.blk Hzz.out
   have h0g := H0z.out.trans Hlg.out
   have n1 : rb ≠ w4.heap.size := by omega
   have n2 : w.heap.size + 2 ≠ w4.heap.size := by have := Hz4.out.lt; omega
   have n3 : w.heap.size + 2 ≠ rb := by have := Hz4.out.lt; omega
   have hsl : ∀ u ∈ [Value.slice none 0 0, Value.slice none 0 0, .slice (some ⟨g, 0, none⟩) 1 1, .slice (some ⟨hh, 0, none⟩) 1 1], ∃ A n c, u = Value.slice A n c := by
    intro u hu
    simp at hu
    rcases hu with rfl | rfl | rfl <;> exact ⟨_, _, _, rfl⟩
   have hTh : TenIn ((wg.setCell ⟨w4.heap.size, 0, none⟩ (.slice S3 1 c3)).setCell ⟨w4.heap.size, 1, none⟩ (.slice C3 1 d3)) S3 C3 c3 d3 amg :=
    { HTi.out with r := ⟨Ints.off (T := 30) HTi.out.r.1 Hgrg.out hsl _ _, Ints.off (T := 30) HTi.out.r.2 Hgrg.out hsl _ _⟩ }
   have hrow := (Hgrg.out.set_ 0 (.slice S3 1 c3)).set_ 1 (.slice C3 1 d3)
   have hRh := (hRg.far (p := ⟨w4.heap.size, 0, none⟩) n1 (.slice S3 1 c3)).far (p := ⟨w4.heap.size, 1, none⟩) n1 (.slice C3 1 d3)
   have hzh := (hzg.far (p := ⟨w4.heap.size, 0, none⟩) n2 (.slice S3 1 c3)).far (p := ⟨w4.heap.size, 1, none⟩) n2 (.slice C3 1 d3)
   have h0h := (h0g.set (p := ⟨w4.heap.size, 0, none⟩) hs4 (.slice S3 1 c3)).set (p := ⟨w4.heap.size, 1, none⟩) hs4 (.slice C3 1 d3)
   simp only [List.setIfInBounds_toArray, List.set_cons_succ, List.set_cons_zero] at hrow
   clear t0 t1 r1 x8 cj q0 q1 c0 c1 c0' c1' bf0 bf1 hHeld hbg hRg hzg h0g
   have HTh := Lib.hid hTh
   have Hrow := Lib.hid hrow
   have HRh := Lib.hid hRh
   have Hzh := Lib.hid hzh
   have H0h := Lib.hid h0h
   clear hTh hrow hRh hzh h0h
   generalize (wg.setCell ⟨w4.heap.size, 0, none⟩ (.slice S3 1 c3)).setCell ⟨w4.heap.size, 1, none⟩ (.slice C3 1 d3) = wh at *
   go_wp2_with fail
   rw [rounds_succ]
   go_wp2_with fail
   rw [rounds_succ]
   have e0 := Hrow.out.cell 0
   have e1 := Hrow.out.cell 1
   have k0 := HRh.out.cell 0
   have k1 := HRh.out.cell 1
   have k2 := HRh.out.cell 2
   have k3 := HRh.out.cell 3
   have kf2 := HRh.out.frozen 2
   have kf3 := HRh.out.frozen 3
   have m0 := Hzh.out.cell 0
   have m1 := Hzh.out.cell 1
   have m2 := Hzh.out.cell 2
   have m3 := Hzh.out.cell 3
   have mf0 := Hzh.out.frozen 0
   have mf1 := Hzh.out.frozen 1
   have mf2 := Hzh.out.frozen 2
   have mf3 := Hzh.out.frozen 3
   simp at e0 e1 k0 k1 k2 k3 m0 m1 m2 m3
   have hwcs := HRz.out.lt
   have hzcs := Hzz.out.lt
   have s1 : ∀ a, S3 = some a → a.block ≠ rb := fun a e => by have := HS3.out a e; simp at this; omega
   have s2 : ∀ a, C3 = some a → a.block ≠ rb := fun a e => by have := (HC3.out a e).1; simp at this; omega
   have s3 : ∀ a, S3 = some a → a.block ≠ w.heap.size + 2 := fun a e => by have := HS3.out a e; simp at this; omega
   have s4 : ∀ a, C3 = some a → a.block ≠ w.heap.size + 2 := fun a e => by have := (HC3.out a e).1; simp at this; omega
   have hTf := (((((HTh.out.farC (p := ⟨rb, 2, none⟩) s1 s2 (.slice S3 1 c3)).farC (p := ⟨rb, 3, none⟩) s1 s2 (.slice C3 1 d3)).farC (p := ⟨w.heap.size + 2, 0, none⟩) s3 s4 (.int .i64 25769803776)).farC (p := ⟨w.heap.size + 2, 1, none⟩) s3 s4 (.slice (some ⟨gb, 0, none⟩) 0 0)).farC (p := ⟨w.heap.size + 2, 2, none⟩) s3 s4 (.slice S3 1 c3)).farC (p := ⟨w.heap.size + 2, 3, none⟩) s3 s4 (.slice C3 1 d3)
   have hzf := (((((Hzh.out.far (p := ⟨rb, 2, none⟩) n3 (.slice S3 1 c3)).far (p := ⟨rb, 3, none⟩) n3 (.slice C3 1 d3)).set_ 0 (.int .i64 25769803776)).set_ 1 (.slice (some ⟨gb, 0, none⟩) 0 0)).set_ 2 (.slice S3 1 c3)).set_ 3 (.slice C3 1 d3)
   have hrw : w.heap.size ≤ rb := by omega
   have hbf := (((((H0h.out.set (p := ⟨rb, 2, none⟩) hrw (.slice S3 1 c3)).set (p := ⟨rb, 3, none⟩) hrw (.slice C3 1 d3)).set (p := ⟨w.heap.size + 2, 0, none⟩) (by simp) (.int .i64 25769803776)).set (p := ⟨w.heap.size + 2, 1, none⟩) (by simp) (.slice (some ⟨gb, 0, none⟩) 0 0)).set (p := ⟨w.heap.size + 2, 2, none⟩) (by simp) (.slice S3 1 c3)).set (p := ⟨w.heap.size + 2, 3, none⟩) (by simp) (.slice C3 1 d3)
   have d0 := hzf.cell 0
   have d1 := hzf.cell 1
   have d2 := hzf.cell 2
   have d3' := hzf.cell 3
   simp at d0 d1 d2 d3'
   have HTf := Lib.hid hTf
   have Hzf := Lib.hid hzf
   have Hbf := Lib.hid hbf
   have Hs1 := Lib.hid s1
   have Hs2 := Lib.hid s2
   have Hs3 := Lib.hid s3
   have Hs4 := Lib.hid s4
   clear hTf hzf hbf s1 s2 s3 s4
   go_wp2_with fail
   refine bodyPost_ret (v := .tuple #[.agg #[.int .i64 25769803776, .slice (some ⟨gb, 0, none⟩) 0 0, .slice S3 1 c3, .slice C3 1 d3], .int .i64 0]) (by simp [results, Tryz.results18, go_sem, d0, d1, d2, d3']) rfl ?_
   exact ⟨some ⟨gb, 0, none⟩, S3, C3, c3, d3, rfl, HTf.out, Hbf.out⟩
end Go.Proofs.YtbnnpkcfifejmabGreat
namespace Go.Proofs.YtbnnpkcfifejmabGreat
open Go.RowKit
theorem Blk.intsQ {w : World} {g : Nat} {t : TypeId} (l : List Int) (h : Blk w g t (l.map (Value.int .i64)).toArray) : Ints .i64 w (some ⟨g, 0, none⟩) l := Ints.of_row fun j hj => by
 rw [Nat.zero_add, h.cell]
 simp [hj]
theorem amx_right : Tn.right amx = true := by decide +kernel
theorem amx_in : Ly.In amx := by intro z hz; simp [amx] at hz; subst hz; unfold Fx.In; omega
theorem am_bad : Pn.forward am [amx] amx = ([], 20) := by
 unfold Pn.forward
 rw [if_pos (by rw [am_fits]; decide), am_fits]
theorem am_net {W : World} {p r g : Nat} (hp : Blk W p 3 #[.int .i64 1]) (hr : Blk W r 3 #[.int .i64 0])
  (hg : Blk W g 47 #[.int .i64 5, .int .i64 12884901888, .int .i64 0, .int .i64 0, .int .i64 0, .int .i64 0, .int .i64 0, .slice none 0 0, .slice (some ⟨r, 0, none⟩) 1 1, .slice none 0 0]) :
  NetR W (some ⟨p, 0, none⟩) (some ⟨g, 0, none⟩) am := by
 refine ⟨hp.intsQ [1], fun j hj => ?_⟩
 have hj2 : j = 0 := by simp [am] at hj; omega
 subst hj2
 exact ⟨g, 0, none, 0, some ⟨r, 0, none⟩, 1, none, 0, rfl, hg.lt, hg.cell 0, hg.cell 1, hg.cell 2, hg.cell 3, hg.cell 4, hg.cell 5, hg.cell 6, hg.cell 7, hg.cell 8, hg.cell 9, ⟨Ints.nil, by simp [am, amop], by omega⟩, ⟨hr.intsQ [0], by simp [am], by omega⟩, Shps.nil, by simp [am], by omega⟩
theorem amx_ten {W : World} {g h : Nat} (hg : Blk W g 3 #[.int .i64 1]) (hh : Blk W h 43 #[.int .i64 8589934592]) : TenIn W (some ⟨g, 0, none⟩) (some ⟨h, 0, none⟩) 1 1 amx :=
 ⟨⟨hg.intsQ [1], hh.intsQ [8589934592]⟩, by decide, by decide, by decide, by decide, by decide, by decide, amx_in⟩
theorem am_blks (w : World) : Blk ((((w.alloc (.cells #[.int .i64 1] 3)).alloc (.cells #[.int .i64 0] 3)).alloc (.cells #[.int .i64 5, .int .i64 12884901888, .int .i64 0, .int .i64 0, .int .i64 0, .int .i64 0, .int .i64 0, .slice none 0 0, .slice (some ⟨w.heap.size + 1, 0, none⟩) 1 1, .slice none 0 0] 47)).alloc (.cells #[.slice (some ⟨w.heap.size, 0, none⟩) 1 1, .slice (some ⟨w.heap.size + 1 + 1, 0, none⟩) 1 1] 26)) (w.heap.size + 1 + 1 + 1) 26 #[.slice (some ⟨w.heap.size, 0, none⟩) 1 1, .slice (some ⟨w.heap.size + 1 + 1, 0, none⟩) 1 1] ∧ NetR ((((w.alloc (.cells #[.int .i64 1] 3)).alloc (.cells #[.int .i64 0] 3)).alloc (.cells #[.int .i64 5, .int .i64 12884901888, .int .i64 0, .int .i64 0, .int .i64 0, .int .i64 0, .int .i64 0, .slice none 0 0, .slice (some ⟨w.heap.size + 1, 0, none⟩) 1 1, .slice none 0 0] 47)).alloc (.cells #[.slice (some ⟨w.heap.size, 0, none⟩) 1 1, .slice (some ⟨w.heap.size + 1 + 1, 0, none⟩) 1 1] 26)) (some ⟨w.heap.size, 0, none⟩) (some ⟨w.heap.size + 1 + 1, 0, none⟩) am ∧ Later w ((((w.alloc (.cells #[.int .i64 1] 3)).alloc (.cells #[.int .i64 0] 3)).alloc (.cells #[.int .i64 5, .int .i64 12884901888, .int .i64 0, .int .i64 0, .int .i64 0, .int .i64 0, .int .i64 0, .slice none 0 0, .slice (some ⟨w.heap.size + 1, 0, none⟩) 1 1, .slice none 0 0] 47)).alloc (.cells #[.slice (some ⟨w.heap.size, 0, none⟩) 1 1, .slice (some ⟨w.heap.size + 1 + 1, 0, none⟩) 1 1] 26)) := by
 have k0 := (((Blk.new w 3 #[.int .i64 1]).alloc (.cells #[.int .i64 0] 3)).alloc (.cells #[.int .i64 5, .int .i64 12884901888, .int .i64 0, .int .i64 0, .int .i64 0, .int .i64 0, .int .i64 0, .slice none 0 0, .slice (some ⟨w.heap.size + 1, 0, none⟩) 1 1, .slice none 0 0] 47)).alloc (.cells #[.slice (some ⟨w.heap.size, 0, none⟩) 1 1, .slice (some ⟨w.heap.size + 1 + 1, 0, none⟩) 1 1] 26)
 have k1 := ((Blk.new (w.alloc (.cells #[.int .i64 1] 3)) 3 #[.int .i64 0]).alloc (.cells #[.int .i64 5, .int .i64 12884901888, .int .i64 0, .int .i64 0, .int .i64 0, .int .i64 0, .int .i64 0, .slice none 0 0, .slice (some ⟨w.heap.size + 1, 0, none⟩) 1 1, .slice none 0 0] 47)).alloc (.cells #[.slice (some ⟨w.heap.size, 0, none⟩) 1 1, .slice (some ⟨w.heap.size + 1 + 1, 0, none⟩) 1 1] 26)
 have k2 := (Blk.new ((w.alloc (.cells #[.int .i64 1] 3)).alloc (.cells #[.int .i64 0] 3)) 47 #[.int .i64 5, .int .i64 12884901888, .int .i64 0, .int .i64 0, .int .i64 0, .int .i64 0, .int .i64 0, .slice none 0 0, .slice (some ⟨w.heap.size + 1, 0, none⟩) 1 1, .slice none 0 0]).alloc (.cells #[.slice (some ⟨w.heap.size, 0, none⟩) 1 1, .slice (some ⟨w.heap.size + 1 + 1, 0, none⟩) 1 1] 26)
 have k3 := Blk.new (((w.alloc (.cells #[.int .i64 1] 3)).alloc (.cells #[.int .i64 0] 3)).alloc (.cells #[.int .i64 5, .int .i64 12884901888, .int .i64 0, .int .i64 0, .int .i64 0, .int .i64 0, .int .i64 0, .slice none 0 0, .slice (some ⟨w.heap.size + 1, 0, none⟩) 1 1, .slice none 0 0] 47)) 26 #[.slice (some ⟨w.heap.size, 0, none⟩) 1 1, .slice (some ⟨w.heap.size + 1 + 1, 0, none⟩) 1 1]
 simp only [World.size_alloc] at k1 k2 k3
 exact ⟨k3, am_net k0 k1 k2, ((((Later.refl w).alloc _).alloc _).alloc _).alloc _⟩
set_option maxHeartbeats 16000000 in
set_option maxRecDepth 20000 in
theorem awake14 (w : World) : Calls Tryz.prog 6 #[] w fun e w' => e = .returned (.bool true) ∧ Below w.heap.size w w' := by
 obtain ⟨hk1, hR1, h01⟩ := am_blks w
 have Hk1 := Lib.hid hk1
 have HR1 := Lib.hid hR1
 have H01 := Lib.hid h01
 clear hk1 hR1 h01
 go_enter Tryz.func6, Tryz.ntmps6
 go_wp2_with fail
 refine (fix_int 3 _ (by decide) (by decide)).mono ?_
 rintro e w0 ⟨rfl, rfl⟩
 rw [show (3 : Int) * 4294967296 = 12884901888 from rfl]
 go_upto_region 2 with fail
 generalize ((((w.alloc (.cells #[.int .i64 1] 3)).alloc (.cells #[.int .i64 0] 3)).alloc (.cells #[.int .i64 5, .int .i64 12884901888, .int .i64 0, .int .i64 0, .int .i64 0, .int .i64 0, .int .i64 0, .slice none 0 0, .slice (some ⟨w.heap.size + 1, 0, none⟩) 1 1, .slice none 0 0] 47)).alloc (.cells #[.slice (some ⟨w.heap.size, 0, none⟩) 1 1, .slice (some ⟨w.heap.size + 1 + 1, 0, none⟩) 1 1] 26)) = w1 at *
 have hk1 := Hk1.out
 have hR1 := HR1.out
 have h01 := H01.out
 clear Hk1 HR1 H01
 generalize w.heap.size + 1 + 1 + 1 = nb at *
 generalize w.heap.size + 1 + 1 = ng at *
 have Hk1 := Lib.hid hk1
 have HR1 := Lib.hid hR1
 have H01 := Lib.hid h01
 clear hk1 hR1 h01
 go_wp2_with fail
 refine (fix_int 2 _ (by decide) (by decide)).mono ?_
 rintro e w2 ⟨rfl, rfl⟩
 rw [show (2 : Int) * 4294967296 = 8589934592 from rfl]
 have t0 := (Blk.new w1 3 #[.int .i64 1]).alloc (.cells #[.int .i64 8589934592] 43)
 have t1 := Blk.new (w1.alloc (.cells #[.int .i64 1] 3)) 43 #[.int .i64 8589934592]
 rw [World.size_alloc] at t1
 have h12 : Later w1 ((w1.alloc (.cells #[.int .i64 1] 3)).alloc (.cells #[.int .i64 8589934592] 43)) := ((Later.refl w1).alloc _).alloc _
 have Ht0 := Lib.hid t0
 have Ht1 := Lib.hid t1
 have H12 := Lib.hid h12
 clear t0 t1 h12
 go_wp2_with fail
 generalize (w1.alloc (.cells #[.int .i64 1] 3)).alloc (.cells #[.int .i64 8589934592] 43) = w2 at *
 have hcof : Calls Tryz.prog 17 #[.slice (some ⟨w1.heap.size, 0, none⟩) 1 1, .slice (some ⟨w1.heap.size + 1, 0, none⟩) 1 1] w2 (OfP amx w2) := tensor_of (some ⟨w1.heap.size, 0, none⟩) (some ⟨w1.heap.size + 1, 0, none⟩) 1 1 amx w2 (by decide) (by decide) ⟨Ht0.out.intsQ [1], Ht1.out.intsQ [8589934592]⟩
 refine hcof.mono ?_
 rintro e w3 ⟨⟨hbad, -⟩ | ⟨-, v, rfl, ⟨g, h, rfl, hg, hh, hG, hH⟩⟩, hb3⟩
 ·rw [amx_right] at hbad; cases hbad
 rw [show amx.s.length = 1 from rfl, show amx.c.length = 1 from rfl]
 have h13 := H12.out.call hb3
 have hT3 : TenIn w3 (some ⟨g, 0, none⟩) (some ⟨h, 0, none⟩) 1 1 amx := amx_ten hG hH
 have h34 : Later w3 (w3.alloc (.cells #[.slice (some ⟨g, 0, none⟩) 1 1, .slice (some ⟨h, 0, none⟩) 1 1] 30)) := (Later.refl w3).alloc _
 have hx4 := Blk.new w3 30 #[.slice (some ⟨g, 0, none⟩) 1 1, .slice (some ⟨h, 0, none⟩) 1 1]
 have h14 := h13.trans h34
 have h04 := H01.out.trans h14
 have hk4 := h14.blk Hk1.out
 have hR4 := HR1.out.below h14 (Nat.le_refl _)
 have hT4 := hT3.later h34
 clear hb3 hcof hG hH Ht0 Ht1 H12 hT3 h13 hg hh
 have H34 := Lib.hid h34
 have Hx4 := Lib.hid hx4
 have H14 := Lib.hid h14
 have H04 := Lib.hid h04
 have Hk4 := Lib.hid hk4
 have HR4 := Lib.hid hR4
 have HT4 := Lib.hid hT4
 clear h34 hx4 h14 h04 hk4 hR4 hT4
 go_upto_region 3 with fail
 generalize w3.alloc (.cells #[.slice (some ⟨g, 0, none⟩) 1 1, .slice (some ⟨h, 0, none⟩) 1 1] 30) = w4 at *
 generalize w3.heap.size = xb at *
 clear H34
 have n0 : w4.cell? ⟨nb, 0, none⟩ = _ := Hk4.out.cell 0
 have n1 : w4.cell? ⟨nb, 1, none⟩ = _ := Hk4.out.cell 1
 have x0 : w4.cell? ⟨xb, 0, none⟩ = _ := Hx4.out.cell 0
 have x1 : w4.cell? ⟨xb, 1, none⟩ = _ := Hx4.out.cell 1
 simp at n0 n1 x0 x1
 go_wp2_with fail
 refine (run_am (some ⟨w.heap.size, 0, none⟩) (some ⟨ng, 0, none⟩) (some ⟨g, 0, none⟩) (some ⟨h, 0, none⟩) 1 1 1 1 w4 HR4.out (by decide) HT4.out).mono ?_
 rintro e w5 ⟨gb, S, C, sc, cd, rfl, hY5, hb5⟩
 have h45 : Later w4 w5 := hb5
 have hk5 := h45.blk Hk4.out
 have hx5 := h45.blk Hx4.out
 have h56 : Later w5 (w5.alloc (.cells #[.int .i64 25769803776, .slice gb 0 0, .slice S 1 sc, .slice C 1 cd] 63)) := (Later.refl w5).alloc _
 have hr6 := Blk.new w5 63 #[.int .i64 25769803776, .slice gb 0 0, .slice S 1 sc, .slice C 1 cd]
 have h46 := h45.trans h56
 have hk6 := h46.blk Hk4.out
 have hx6 := h46.blk Hx4.out
 have hR6 := HR4.out.below h46 (Nat.le_refl _)
 have hT6 := HT4.out.later h46
 have hY6 := hY5.later h56
 have h06 := H04.out.trans h46
 clear hb5 n0 n1 x0 x1 hY5 hk5 hx5 h45
 have H56 := Lib.hid h56
 have Hr6 := Lib.hid hr6
 have H46 := Lib.hid h46
 have Hk6 := Lib.hid hk6
 have Hx6 := Lib.hid hx6
 have HR6 := Lib.hid hR6
 have HT6 := Lib.hid hT6
 have HY6 := Lib.hid hY6
 have H06 := Lib.hid h06
 clear h56 hr6 h46 hk6 hx6 hR6 hT6 hY6 h06
 go_upto_region 4 with fail
 generalize w5.alloc (.cells #[.int .i64 25769803776, .slice gb 0 0, .slice S 1 sc, .slice C 1 cd] 63) = w6 at *
 generalize w5.heap.size = rb at *
 clear H56 H46 HR4 HT4 Hx4 Hk4 H14 H04 HR1 Hk1 H01
 have n0 : w6.cell? ⟨nb, 0, none⟩ = _ := Hk6.out.cell 0
 have n1 : w6.cell? ⟨nb, 1, none⟩ = _ := Hk6.out.cell 1
 have x0 : w6.cell? ⟨xb, 0, none⟩ = _ := Hx6.out.cell 0
 have x1 : w6.cell? ⟨xb, 1, none⟩ = _ := Hx6.out.cell 1
 simp at n0 n1 x0 x1
 have h67 : Later w6 (w6.alloc (.cells #[.slice (some ⟨g, 0, none⟩) 1 1, .slice (some ⟨h, 0, none⟩) 1 1] 30)) := (Later.refl w6).alloc _
 have hp7 := Blk.new w6 30 #[.slice (some ⟨g, 0, none⟩) 1 1, .slice (some ⟨h, 0, none⟩) 1 1]
 have y0 := h67.cell x0
 have y1 := h67.cell x1
 have H67 := Lib.hid h67
 have Hp7 := Lib.hid hp7
 clear h67 hp7
 go_wp2_with fail
 generalize w6.alloc (.cells #[.slice (some ⟨g, 0, none⟩) 1 1, .slice (some ⟨h, 0, none⟩) 1 1] 30) = w7 at *
 generalize w6.heap.size = pb at *
 have hT7 := HT6.out.later H67.out
 have hP7 : Tns w7 (some ⟨pb, 0, none⟩) [amx] := fun j hj => by
  obtain rfl : j = 0 := by simpa using hj
  exact ⟨pb, 0, _, 1, _, 1, rfl, Hp7.out.lt, Hp7.out.cell 0, Hp7.out.cell 1, hT7⟩
 have hcb : Calls Tryz.prog 18 #[.agg #[.slice (some ⟨w.heap.size, 0, none⟩) 1 1, .slice (some ⟨ng, 0, none⟩) 1 1], .slice (some ⟨pb, 0, none⟩) 1 1, .agg #[.slice (some ⟨g, 0, none⟩) 1 1, .slice (some ⟨h, 0, none⟩) 1 1]] w7 fun e w' => e = .returned (.tuple #[.agg #[.int .i64 0, .slice none 0 0, .slice none 0 0, .slice none 0 0], .int .i64 20]) ∧ Below w7.heap.size w7 w' := by
  have := run_bad (some ⟨w.heap.size, 0, none⟩) (some ⟨ng, 0, none⟩) (some ⟨pb, 0, none⟩) (some ⟨g, 0, none⟩) (some ⟨h, 0, none⟩) 1 1 1 1 1 am [amx] amx w7 am_ok (HR6.out.below H67.out (Nat.le_refl _)) (by decide) hP7 (by decide) (by decide) (by decide) (fun h => by cases h) hT7 (by rw [am_bad]; decide)
  rw [am_bad] at this
  exact this
 refine hcb.mono ?_
 rintro e w8 ⟨rfl, hb8⟩
 have h68 := H67.out.call hb8
 have h89 : Later w8 (w8.alloc (.cells #[.int .i64 0, .slice none 0 0, .slice none 0 0, .slice none 0 0] 63)) := (Later.refl w8).alloc _
 have h69 := h68.trans h89
 have hr9 := h69.blk Hr6.out
 have hY9 := HY6.out.later h69
 have h09 := H06.out.trans h69
 clear hb8 hcb hP7 hT7 n0 n1 x0 x1 y0 y1 h68 h89 h69 H67 Hp7 Hr6 HY6 H06 HT6 HR6 Hx6 Hk6
 have Hr9 := Lib.hid hr9
 have HY9 := Lib.hid hY9
 have H09 := Lib.hid h09
 clear hr9 hY9 h09
 go_upto_region 5 with fail
 generalize w8.alloc (.cells #[.int .i64 0, .slice none 0 0, .slice none 0 0, .slice none 0 0] 63) = w9 at *
 have r0 : w9.cell? ⟨rb, 0, none⟩ = _ := Hr9.out.cell 0
 have r1 : w9.cell? ⟨rb, 1, none⟩ = _ := Hr9.out.cell 1
 have r3 : w9.cell? ⟨rb, 3, none⟩ = _ := Hr9.out.cell 3
 simp at r0 r1 r3
 obtain ⟨bc, oc, rfl, -, yc⟩ := HY9.out.cell (k := 0) (by decide)
 replace yc : w9.cell? ⟨bc, oc, none⟩ = some (.int .i64 12884901888) := yc
 have KF := Lib.hid (show ∀ Xw, Later w9 Xw → Xw.cell? ⟨rb, 0, none⟩ = some (.int .i64 25769803776) ∧ Xw.cell? ⟨rb, 1, none⟩ = some (.slice gb 0 0) ∧ Xw.cell? ⟨rb, 3, none⟩ = some (.slice (some ⟨bc, oc, none⟩) 1 cd) ∧ Xw.cell? ⟨bc, oc, none⟩ = some (.int .i64 12884901888) from fun Xw h => ⟨h.cell r0, h.cell r1, h.cell r3, h.cell yc⟩)
 refine wp_region_noPanic ?_
 refine wp_region_held_drew (S := fun Xw => Xw.cell? ⟨rb, 0, none⟩ = some (.int .i64 25769803776) ∧ Xw.cell? ⟨rb, 1, none⟩ = some (.slice gb 0 0) ∧ Xw.cell? ⟨rb, 3, none⟩ = some (.slice (some ⟨bc, oc, none⟩) 1 cd) ∧ Xw.cell? ⟨bc, oc, none⟩ = some (.int .i64 12884901888)) (by kernel_rfl) (KF.out _ Later.au) (fun hHeld => ?_)
 refine tk 0 ?_
 refine tk 1 ?_
 refine tk 2 ?_
 refine tk 3 ?_
 refine tk 4 ?_
 refine tk 5 ?_
 refine tk 6 ?_
 refine tk 7 ?_
 refine tk 8 ?_
 refine rd 9 fun K hK => ?_
 simp only [ga, gs, gz]
 go_simp
 go_at_call 16; (with_reducible refine (fix_int 6 _ (by decide) (by decide)).mono ?_); rintro e wg ⟨rfl, rfl⟩
 rw [show (6 : Int) * 4294967296 = 25769803776 from rfl]
 try go_wp2_with fail
 refine hK.out _ _ (KF.out _ Later.au) (fun hHeld => ?_)
 clear hK K
 try simp only [ga, gs, gz, Act.put, sa, sz, ss]
 refine tk 10 ?_
 refine tk 11 ?_
 refine tk 12 ?_
 refine tk 13 ?_
 refine tk 14 ?_
 refine tk 15 ?_
 refine tk 16 ?_
 refine tk 17 ?_
 refine tk 18 ?_
 refine tk 19 ?_
 refine tk 20 ?_
 refine tk 21 ?_
 refine tk 22 ?_
 refine tk 23 ?_
 refine tk 24 ?_
 refine rd 25 fun K hK => ?_
 simp only [ga, gs, gz]
 go_simp
 go_at_call 16; (with_reducible refine (fix_int 3 _ (by decide) (by decide)).mono ?_); rintro e wg ⟨rfl, rfl⟩
 rw [show (3 : Int) * 4294967296 = 12884901888 from rfl]
 try go_wp2_with fail
 refine hK.out _ _ (KF.out _ Later.au) (fun hHeld => ?_)
 clear hK K
 try simp only [ga, gs, gz, Act.put, sa, sz, ss]
 refine tk 26 ?_
 refine tk 27 ?_
 refine tk 28 ?_
 refine tk 29 ?_
 refine tk 30 ?_
 refine tk 31 ?_
 refine tk 32 ?_
 refine tk 33 ?_
 refine tk 34 ?_
 clear KF
 refine wpAnyH_done (by kernel_rfl) ?_ _
 refine NoPanic.normal ?_
 go_wp2_with fail
 go_ret
 exact ⟨rfl, Later.drew H09.out⟩
end Go.Proofs.YtbnnpkcfifejmabGreat
namespace Go.Proofs.YtbnnpkcfifejmabGreat
open Go.ChangeShapes Go.WideShapes Go.Deep Go.RowKit
section
variable {H : Type} {enc : TypeId × Value → H} {P : Program} {W : World} {base : Nat} {spare : Nat → Bool} {held : Bool}
theorem bulk_one (d : DataW H) : 1 ≤ Rows.uptoBulk d := by
 cases d with
 | lit l => cases l <;> simp [Rows.uptoBulk]
 | nil => simp [Rows.uptoBulk]
 | ptr d => simp [Rows.uptoBulk]
 | slice elems spare => simp [Rows.uptoBulk]
 | agg parts => simp [Rows.uptoBulk]
 | iface t d => simp [Rows.uptoBulk]
 | map entries => simp [Rows.uptoBulk]
 | held h => simp [Rows.uptoBulk]
theorem bulk_part {d : DataW H} {l : List (DataW H)} (h : d ∈ l) : Rows.uptoBulk d ≤ Rows.uptoBulkAll l := by
 induction l with
 | nil => cases h
 | cons x r ih =>
  simp only [Rows.uptoBulkAll]
  cases List.mem_cons.1 h with
  | inl e => subst e; omega
  | inr e => have := ih e; omega
theorem bulk_len (l : List (DataW H)) : l.length ≤ Rows.uptoBulkAll l := by
 induction l with
 | nil => simp [Rows.uptoBulkAll]
 | cons x r ih => have := bulk_one x; simp only [Rows.uptoBulkAll, List.length_cons]; omega
theorem slice_bulk {t e : TypeId} {fuel : Nat} {v : Value} {x : DataW H × List MemPlace} (ht : P.underlying t = some (.slice e)) (h : DataW.trod enc P W base spare held fuel t [v] = some x) (hz : Rows.uptoBulk x.1 ≤ 1048576) :
  v = .slice none 0 0 ∨ ∃ a len cap, v = .slice (some a) len cap ∧ len ≤ cap ∧ cap ≤ maxLen ∧ len ≤ 1048576 ∧
   ∀ i, i < len → ∃ cs' m y, W.cells? base (a.add (i * P.cellsOf e)) (P.cellsOf e) = some cs' ∧ DataW.trod enc P W base spare held m e cs' = some y ∧ Rows.uptoBulk y.1 ≤ 1048576 := by
 rcases open_slice ht h with ⟨hcs, _⟩ | ⟨a, len, cap, m, n, D, Pl, hcs, _, hl, hm, hmm, hx, hi⟩
 ·simp at hcs; exact .inl hcs
 ·simp at hcs; subst hcs
  right
  have hlm : len ≤ m := by rw [hmm]; split <;> omega
  rw [hx] at hz
  simp only [Rows.uptoBulk] at hz
  refine ⟨a, len, cap, rfl, hl, hm, ?_, fun i hil => ?_⟩
  ·have := bulk_len ((List.range len).map D)
   simp at this
   omega
  ·obtain ⟨cs', h1, h2⟩ := hi i (by omega)
   refine ⟨cs', n, _, h1, h2, ?_⟩
   have := bulk_part (d := D i) (l := (List.range len).map D) (List.mem_map.2 ⟨i, by simpa using hil, rfl⟩)
   show Rows.uptoBulk (D i) ≤ _
   omega
end
theorem int_one' : Tryz.prog.cellsOf 3 = 1 := by kernel_rfl
theorem shp_one : Tryz.prog.cellsOf 23 = 1 := by kernel_rfl
theorem node_cells : Tryz.prog.cellsOf 47 = 10 := by kernel_rfl
theorem nums_open {H : Type} {enc : TypeId × Value → H} {W : World} {base : Nat} {spare : Nat → Bool} {held : Bool} {t : TypeId} {fuel : Nat} {v : Value} {x : DataW H × List MemPlace} (ht : Tryz.prog.underlying t = some (.slice 3))
  (h : DataW.trod enc Tryz.prog W base spare held fuel t [v] = some x) (hz : Rows.uptoBulk x.1 ≤ 1048576) :
  ∃ A c zs, v = .slice A zs.length c ∧ Ints .i64 W A zs ∧ zs.length ≤ c ∧ c ≤ 9223372036854775807 ∧ zs.length ≤ 1048576 ∧ ∀ z ∈ zs, -9223372036854775808 ≤ z ∧ z ≤ 9223372036854775807 := by
 obtain ⟨A, c, zs, rfl, hl, hc, hI, hw⟩ := ints_open ht Tryz.underlying3 int_one' h
 refine ⟨A, c, zs, rfl, hI, hc, ?_, ?_, fun z hz => wf_bd (hw z hz)⟩
 ·rcases slice_bulk ht h hz with e | ⟨a, len, cap, e, _, hm, _⟩
  ·injection e with _ _ e; omega
  ·injection e with _ _ e; unfold maxLen at hm; omega
 ·rcases slice_bulk ht h hz with e | ⟨a, len, cap, e, _, _, hb, _⟩
  ·injection e with _ e _; rw [e]; exact Nat.zero_le _
  ·have e2 : zs.length = len := by simp at e; exact e.2.1
   rw [e2]
   exact hb
theorem one_list {l : List Value} (h : l.length = 1) : ∃ v, l = [v] := by
 match l, h with
 | [v], _ => exact ⟨v, rfl⟩
theorem choose_list {α : Type} [Inhabited α] {n : Nat} {Q : Nat → α → Prop} (h : ∀ i, i < n → ∃ a, Q i a) : ∃ l : List α, l.length = n ∧ ∀ i (hi : i < l.length), Q i l[i] := by
 obtain ⟨f, hf⟩ := @choose_lt α _ _ _ h
 exact ⟨(List.range n).map f, by simp, fun i hi => by simp at hi; simpa using hf i hi⟩
theorem addr_lit {W : World} {a : Addr} {v : Value} (h : W.cell? a = some v) : ∃ b off, a = ⟨b, off, none⟩ := by
 obtain ⟨b, off, spot⟩ := a
 have hs : spot = none := by simpa using World.cell?_spot h
 subst hs
 exact ⟨b, off, rfl⟩
theorem shps_open {H : Type} {enc : TypeId × Value → H} {W : World} {base : Nat} {spare : Nat → Bool} {held : Bool} {fuel : Nat} {v : Value} {x : DataW H × List MemPlace}
  (h : DataW.trod enc Tryz.prog W base spare held fuel 39 [v] = some x) (hz : Rows.uptoBulk x.1 ≤ 1048576) :
  ∃ A c ss, v = .slice A ss.length c ∧ Shps W A ss ∧ ss.length ≤ c ∧ c ≤ 9223372036854775807 ∧ ss.length ≤ 1048576 ∧ ∀ s ∈ ss, s.length ≤ 1048576 ∧ ∀ z ∈ s, -9223372036854775808 ≤ z ∧ z ≤ 9223372036854775807 := by
 rcases slice_bulk Tryz.underlying39 h hz with rfl | ⟨a, len, cap, rfl, hl, hm, hb, hi⟩
 ·exact ⟨none, 0, [], rfl, Shps.nil, by simp, by omega, by simp, by simp⟩
 ·rw [shp_one] at hi
  have key : ∀ i, i < len → ∃ q : (List Int) × (Option Addr) × Nat, W.cell? (a.add i) = some (.slice q.2.1 q.1.length q.2.2) ∧ Ints .i64 W q.2.1 q.1 ∧ q.1.length ≤ q.2.2 ∧ q.2.2 ≤ 9223372036854775807 ∧ q.1.length ≤ 1048576 ∧ ∀ z ∈ q.1, -9223372036854775808 ≤ z ∧ z ≤ 9223372036854775807 := fun i hil => by
   obtain ⟨cs', m, y, hc, ht, hw⟩ := hi i hil
   obtain ⟨_, hlen, hat⟩ := World.cells?_some hc
   obtain ⟨v, rfl⟩ := one_list hlen
   obtain ⟨A, c, zs, rfl, h1, h2⟩ := nums_open Tryz.underlying23 ht hw
   refine ⟨(zs, A, c), ?_, h1, h2⟩
   have := hat 0 (by omega)
   rw [Nat.mul_one] at this
   simpa [Addr.add] using this
  obtain ⟨L, hL, hq⟩ := choose_list key
  refine ⟨some a, cap, L.map (·.1), by simp [hL], fun j hj => ?_, by simpa [hL] using hl, by unfold maxLen at hm; omega, by simp [hL]; exact hb, fun s hs => ?_⟩
  ·rw [List.length_map] at hj
   obtain ⟨h1, h2, h3, h4, _⟩ := hq j hj
   obtain ⟨h0, _⟩ := hq 0 (by omega)
   obtain ⟨b, off, rfl⟩ := addr_lit (show W.cell? a = _ by simpa [Addr.add] using h0)
   rw [add_plain'] at h1
   rw [List.getElem_map]
   exact ⟨b, off, _, _, rfl, World.block_lt_of_cell? _ _ h1, h1, h2, h3, h4⟩
  ·obtain ⟨q, hqm, rfl⟩ := List.mem_map.1 hs
   obtain ⟨i, hi, rfl⟩ := List.getElem_of_mem hqm
   exact (hq i hi).2.2.2.2
def OpD.inR (o : OpD) : Prop := o.wide ∧ ∀ z ∈ o.s, -9223372036854775808 ≤ z ∧ z ≤ 9223372036854775807
def NodeD.fits (v : NodeD) : Prop := v.op.wide ∧ v.op.s.length ≤ 1048576 ∧ v.ins.length ≤ 1048576 ∧ v.p.length ≤ 1048576 ∧ (∀ s ∈ v.p, s.length ≤ 1048576) ∧
 (∀ z ∈ v.op.s, -9223372036854775808 ≤ z ∧ z ≤ 9223372036854775807) ∧ (∀ z ∈ v.ins, -9223372036854775808 ≤ z ∧ z ≤ 9223372036854775807) ∧ ∀ s ∈ v.p, ∀ z ∈ s, -9223372036854775808 ≤ z ∧ z ≤ 9223372036854775807
def NetD.fits (n : NetD) : Prop := n.inn.length ≤ 1048576 ∧ n.nodes.length ≤ 1048576 ∧ (∀ z ∈ n.inn, -9223372036854775808 ≤ z ∧ z ≤ 9223372036854775807) ∧ ∀ v ∈ n.nodes, v.fits
theorem node_under : Tryz.prog.underlying 47 = some (.struct (Tryz.prog.fieldsOf 47)) := by kernel_rfl
theorem node_three : (Tryz.prog.fieldsOf 47).size = 3 := by kernel_rfl
theorem node_types : (Tryz.prog.fieldsOf 47).toList.map (·.type) = [45, 22, 39] := by kernel_rfl
theorem node_f0 : ((Tryz.prog.fieldsOf 47)[0]?).map (fun f => (f.type, f.offset, Tryz.prog.cellsOf f.type)) = some (45, 0, 8) := by kernel_rfl
theorem node_f1 : ((Tryz.prog.fieldsOf 47)[1]?).map (fun f => (f.type, f.offset, Tryz.prog.cellsOf f.type)) = some (22, 8, 1) := by kernel_rfl
theorem node_f2 : ((Tryz.prog.fieldsOf 47)[2]?).map (fun f => (f.type, f.offset, Tryz.prog.cellsOf f.type)) = some (39, 9, 1) := by kernel_rfl
theorem op_under : Tryz.prog.underlying 45 = some (.struct (Tryz.prog.fieldsOf 45)) := by kernel_rfl
theorem op_eight : (Tryz.prog.fieldsOf 45).size = 8 := by kernel_rfl
theorem op_types : (Tryz.prog.fieldsOf 45).toList.map (·.type) = [3, 43, 3, 3, 3, 3, 3, 23] := by kernel_rfl
theorem op_f0 : ((Tryz.prog.fieldsOf 45)[0]?).map (fun f => (f.type, f.offset, Tryz.prog.cellsOf f.type)) = some (3, 0, 1) := by kernel_rfl
theorem op_f1 : ((Tryz.prog.fieldsOf 45)[1]?).map (fun f => (f.type, f.offset, Tryz.prog.cellsOf f.type)) = some (43, 1, 1) := by kernel_rfl
theorem op_f2 : ((Tryz.prog.fieldsOf 45)[2]?).map (fun f => (f.type, f.offset, Tryz.prog.cellsOf f.type)) = some (3, 2, 1) := by kernel_rfl
theorem op_f3 : ((Tryz.prog.fieldsOf 45)[3]?).map (fun f => (f.type, f.offset, Tryz.prog.cellsOf f.type)) = some (3, 3, 1) := by kernel_rfl
theorem op_f4 : ((Tryz.prog.fieldsOf 45)[4]?).map (fun f => (f.type, f.offset, Tryz.prog.cellsOf f.type)) = some (3, 4, 1) := by kernel_rfl
theorem op_f5 : ((Tryz.prog.fieldsOf 45)[5]?).map (fun f => (f.type, f.offset, Tryz.prog.cellsOf f.type)) = some (3, 5, 1) := by kernel_rfl
theorem op_f6 : ((Tryz.prog.fieldsOf 45)[6]?).map (fun f => (f.type, f.offset, Tryz.prog.cellsOf f.type)) = some (3, 6, 1) := by kernel_rfl
theorem op_f7 : ((Tryz.prog.fieldsOf 45)[7]?).map (fun f => (f.type, f.offset, Tryz.prog.cellsOf f.type)) = some (23, 7, 1) := by kernel_rfl
theorem list3 {α : Type} {l : List α} (h : l.length = 3) : ∃ a b c, l = [a, b, c] := by
 match l, h with
 | [a, b, c], _ => exact ⟨a, b, c, rfl⟩
theorem list8 {α : Type} {l : List α} (h : l.length = 8) : ∃ a b c d e f g i, l = [a, b, c, d, e, f, g, i] := by
 match l, h with
 | [a, b, c, d, e, f, g, i], _ => exact ⟨a, b, c, d, e, f, g, i, rfl⟩
theorem list10 {α : Type} {l : List α} (h : l.length = 10) : ∃ a b c d e f g i j k, l = [a, b, c, d, e, f, g, i, j, k] := by
 match l, h with
 | [a, b, c, d, e, f, g, i, j, k], _ => exact ⟨a, b, c, d, e, f, g, i, j, k, rfl⟩
set_option maxRecDepth 100000 in
theorem op_open {H : Type} {enc : TypeId × Value → H} {W : World} {base : Nat} {spare : Nat → Bool} {held : Bool} {fuel : Nat} {v0 v1 v2 v3 v4 v5 v6 v7 : Value} {x : DataW H × List MemPlace}
  (h : DataW.trod enc Tryz.prog W base spare held fuel 45 [v0, v1, v2, v3, v4, v5, v6, v7] = some x) (hz : Rows.uptoBulk x.1 ≤ 1048576) :
  ∃ (o : OpD) (S : Option Addr) (c : Nat), v0 = .int .i64 o.kind ∧ v1 = .int .i64 o.k ∧ v2 = .int .i64 o.width ∧ v3 = .int .i64 o.step ∧ v4 = .int .i64 o.side ∧ v5 = .int .i64 o.frm ∧ v6 = .int .i64 o.to ∧ v7 = .slice S o.s.length c ∧
   Ints .i64 W S o.s ∧ o.s.length ≤ c ∧ c ≤ 9223372036854775807 ∧ o.s.length ≤ 1048576 ∧ o.wide ∧ ∀ z ∈ o.s, -9223372036854775808 ≤ z ∧ z ≤ 9223372036854775807 := by
 obtain ⟨ys, n, _, hx, _, hlen, hg⟩ := DataW.trod_struct op_under h
 rw [op_eight] at hlen
 obtain ⟨y0, y1, y2, y3, y4, y5, y6, y7, rfl⟩ := list8 hlen
 rw [hx] at hz
 obtain ⟨f0, e0, t0⟩ := Option.map_eq_some_iff.1 op_f0
 simp only [Prod.mk.injEq] at t0
 have h0 := hg 0 f0 e0
 rw [t0.2.2, t0.2.1, t0.1] at h0
 simp at h0
 obtain ⟨f1, e1, t1⟩ := Option.map_eq_some_iff.1 op_f1
 simp only [Prod.mk.injEq] at t1
 have h1 := hg 1 f1 e1
 rw [t1.2.2, t1.2.1, t1.1] at h1
 simp at h1
 obtain ⟨f2, e2, t2⟩ := Option.map_eq_some_iff.1 op_f2
 simp only [Prod.mk.injEq] at t2
 have h2 := hg 2 f2 e2
 rw [t2.2.2, t2.2.1, t2.1] at h2
 simp at h2
 obtain ⟨f3, e3, t3⟩ := Option.map_eq_some_iff.1 op_f3
 simp only [Prod.mk.injEq] at t3
 have h3 := hg 3 f3 e3
 rw [t3.2.2, t3.2.1, t3.1] at h3
 simp at h3
 obtain ⟨f4, e4, t4⟩ := Option.map_eq_some_iff.1 op_f4
 simp only [Prod.mk.injEq] at t4
 have h4 := hg 4 f4 e4
 rw [t4.2.2, t4.2.1, t4.1] at h4
 simp at h4
 obtain ⟨f5, e5, t5⟩ := Option.map_eq_some_iff.1 op_f5
 simp only [Prod.mk.injEq] at t5
 have h5 := hg 5 f5 e5
 rw [t5.2.2, t5.2.1, t5.1] at h5
 simp at h5
 obtain ⟨f6, e6, t6⟩ := Option.map_eq_some_iff.1 op_f6
 simp only [Prod.mk.injEq] at t6
 have h6 := hg 6 f6 e6
 rw [t6.2.2, t6.2.1, t6.1] at h6
 simp at h6
 obtain ⟨f7, e7, t7⟩ := Option.map_eq_some_iff.1 op_f7
 simp only [Prod.mk.injEq] at t7
 have h7 := hg 7 f7 e7
 rw [t7.2.2, t7.2.1, t7.1] at h7
 simp at h7
 have hz7 : Rows.uptoBulk y7.1 ≤ 1048576 := by simp [Rows.uptoBulk, Rows.uptoBulkAll] at hz; omega
 obtain ⟨x0, q0, _, w0⟩ := DataW.trod_int Tryz.underlying3 h0
 simp at q0
 subst q0
 obtain ⟨x1, q1, _, w1⟩ := DataW.trod_int Tryz.underlying43 h1
 simp at q1
 subst q1
 obtain ⟨x2, q2, _, w2⟩ := DataW.trod_int Tryz.underlying3 h2
 simp at q2
 subst q2
 obtain ⟨x3, q3, _, w3⟩ := DataW.trod_int Tryz.underlying3 h3
 simp at q3
 subst q3
 obtain ⟨x4, q4, _, w4⟩ := DataW.trod_int Tryz.underlying3 h4
 simp at q4
 subst q4
 obtain ⟨x5, q5, _, w5⟩ := DataW.trod_int Tryz.underlying3 h5
 simp at q5
 subst q5
 obtain ⟨x6, q6, _, w6⟩ := DataW.trod_int Tryz.underlying3 h6
 simp at q6
 subst q6
 obtain ⟨S, c, zs, rfl, hI, h1, h2, h3, h4⟩ := nums_open Tryz.underlying23 h7 hz7
 refine ⟨⟨x0, x1, x2, x3, x4, x5, x6, zs⟩, S, c, rfl, rfl, rfl, rfl, rfl, rfl, rfl, rfl, hI, h1, h2, h3, fun z hz => ?_, h4⟩
 simp at hz
 rcases hz with rfl | rfl | rfl | rfl | rfl | rfl | rfl
 ·exact wf_bd w0
 ·exact wf_bd w1
 ·exact wf_bd w2
 ·exact wf_bd w3
 ·exact wf_bd w4
 ·exact wf_bd w5
 ·exact wf_bd w6
structure NodeQ where
 v : NodeD
 S : Option Addr
 c : Nat
 I : Option Addr
 d : Nat
 Q : Option Addr
 q : Nat
instance : Inhabited NodeQ := ⟨⟨Nt.none_, none, 0, none, 0, none, 0⟩⟩
def NodeQ.cells (x : NodeQ) : List Value := [.int .i64 x.v.op.kind, .int .i64 x.v.op.k, .int .i64 x.v.op.width, .int .i64 x.v.op.step, .int .i64 x.v.op.side, .int .i64 x.v.op.frm, .int .i64 x.v.op.to, .slice x.S x.v.op.s.length x.c, .slice x.I x.v.ins.length x.d, .slice x.Q x.v.p.length x.q]
def NodeQ.R (x : NodeQ) (W : World) : Prop := (Ints .i64 W x.S x.v.op.s ∧ x.v.op.s.length ≤ x.c ∧ x.c ≤ 9223372036854775807) ∧ (Ints .i64 W x.I x.v.ins ∧ x.v.ins.length ≤ x.d ∧ x.d ≤ 9223372036854775807) ∧ (Shps W x.Q x.v.p ∧ x.v.p.length ≤ x.q ∧ x.q ≤ 9223372036854775807)
set_option maxRecDepth 100000 in
theorem node_open {H : Type} {enc : TypeId × Value → H} {W : World} {base : Nat} {spare : Nat → Bool} {held : Bool} {fuel : Nat} {cs : List Value} {x : DataW H × List MemPlace} (hcs : cs.length = 10)
  (h : DataW.trod enc Tryz.prog W base spare held fuel 47 cs = some x) (hz : Rows.uptoBulk x.1 ≤ 1048576) :
  ∃ q : NodeQ, cs = q.cells ∧ q.R W ∧ q.v.fits := by
 obtain ⟨v0, v1, v2, v3, v4, v5, v6, v7, v8, v9, rfl⟩ := list10 hcs
 obtain ⟨ys, n, _, hx, _, hlen, hg⟩ := DataW.trod_struct node_under h
 rw [node_three] at hlen
 obtain ⟨y0, y1, y2, rfl⟩ := list3 hlen
 rw [hx] at hz
 obtain ⟨f0, e0, t0⟩ := Option.map_eq_some_iff.1 node_f0
 simp only [Prod.mk.injEq] at t0
 have h0 := hg 0 f0 e0
 rw [t0.2.2, t0.2.1, t0.1] at h0
 simp at h0
 obtain ⟨f1, e1, t1⟩ := Option.map_eq_some_iff.1 node_f1
 simp only [Prod.mk.injEq] at t1
 have h1 := hg 1 f1 e1
 rw [t1.2.2, t1.2.1, t1.1] at h1
 simp at h1
 obtain ⟨f2, e2, t2⟩ := Option.map_eq_some_iff.1 node_f2
 simp only [Prod.mk.injEq] at t2
 have h2 := hg 2 f2 e2
 rw [t2.2.2, t2.2.1, t2.1] at h2
 simp at h2
 have hz0 : Rows.uptoBulk y0.1 ≤ 1048576 := by simp [Rows.uptoBulk, Rows.uptoBulkAll] at hz; omega
 have hz1 : Rows.uptoBulk y1.1 ≤ 1048576 := by simp [Rows.uptoBulk, Rows.uptoBulkAll] at hz; omega
 have hz2 : Rows.uptoBulk y2.1 ≤ 1048576 := by simp [Rows.uptoBulk, Rows.uptoBulkAll] at hz; omega
 obtain ⟨o, S, c, rfl, rfl, rfl, rfl, rfl, rfl, rfl, rfl, a1, a2, a3, a4, a5, a6⟩ := op_open h0 hz0
 obtain ⟨I, d, is, rfl, b1, b2, b3, b4, b5⟩ := nums_open Tryz.underlying22 h1 hz1
 obtain ⟨Q, q, ps, rfl, c1, c2, c3, c4, c5⟩ := shps_open h2 hz2
 exact ⟨⟨⟨o, is, ps⟩, S, c, I, d, Q, q⟩, rfl, ⟨⟨a1, a2, a3⟩, ⟨b1, b2, b3⟩, c1, c2, c3⟩, a5, a4, b4, c4, fun s hs => (c5 s hs).1, a6, b5, fun s hs => (c5 s hs).2⟩
theorem nodes_open {H : Type} {enc : TypeId × Value → H} {W : World} {base : Nat} {spare : Nat → Bool} {held : Bool} {fuel : Nat} {v : Value} {x : DataW H × List MemPlace}
  (h : DataW.trod enc Tryz.prog W base spare held fuel 24 [v] = some x) (hz : Rows.uptoBulk x.1 ≤ 1048576) :
  ∃ A c ns, v = .slice A ns.length c ∧ Nodes W A ns ∧ ns.length ≤ c ∧ c ≤ 9223372036854775807 ∧ ns.length ≤ 1048576 ∧ ∀ v ∈ ns, v.fits := by
 rcases slice_bulk Tryz.underlying24 h hz with rfl | ⟨a, len, cap, rfl, hl, hm, hb, hi⟩
 ·exact ⟨none, 0, [], rfl, fun j hj => absurd hj (by simp), by simp, by omega, by simp, by simp⟩
 ·rw [node_cells] at hi
  have key : ∀ i, i < len → ∃ q : NodeQ, (∀ j, j < 10 → W.cell? ((a.add (i * 10)).add j) = q.cells[j]?) ∧ q.R W ∧ q.v.fits := fun i hil => by
   obtain ⟨cs', m, y, hc, ht, hw⟩ := hi i hil
   obtain ⟨_, hlen, hat⟩ := World.cells?_some hc
   obtain ⟨q, rfl, h1, h2⟩ := node_open hlen ht hw
   exact ⟨q, hat, h1, h2⟩
  obtain ⟨L, hL, hq⟩ := choose_list key
  refine ⟨some a, cap, L.map (·.v), by simp [hL], fun j hj => ?_, by simpa [hL] using hl, by unfold maxLen at hm; omega, by simp [hL]; exact hb, fun s hs => ?_⟩
  ·rw [List.length_map] at hj
   obtain ⟨h1, ⟨r1, r2, r3⟩, _⟩ := hq j hj
   obtain ⟨h0, _⟩ := hq 0 (by omega)
   have h00 := h0 0 (by omega)
   obtain ⟨b, off, rfl⟩ := addr_lit (v := .int .i64 L[0].v.op.kind) (show W.cell? a = _ by simpa [Addr.add, NodeQ.cells] using h00)
   simp only [add_plain'] at h1
   rw [List.getElem_map]
   refine ⟨b, off, _, _, _, _, _, _, rfl, World.block_lt_of_cell? _ _ (h1 0 (by omega)), h1 0 (by omega), h1 1 (by omega), h1 2 (by omega), h1 3 (by omega), h1 4 (by omega), h1 5 (by omega), h1 6 (by omega), h1 7 (by omega), h1 8 (by omega), h1 9 (by omega), r1, r2, r3⟩
  ·obtain ⟨q, hqm, rfl⟩ := List.mem_map.1 hs
   obtain ⟨i, hi, rfl⟩ := List.getElem_of_mem hqm
   exact (hq i hi).2.2
theorem net_cells : Tryz.prog.cellsOf 26 = 2 := by kernel_rfl
theorem net_under : Tryz.prog.underlying 26 = some (.struct (Tryz.prog.fieldsOf 26)) := by kernel_rfl
theorem net_two : (Tryz.prog.fieldsOf 26).size = 2 := by kernel_rfl
theorem net_types : (Tryz.prog.fieldsOf 26).toList.map (·.type) = [23, 24] := by kernel_rfl
theorem net_f0 : ((Tryz.prog.fieldsOf 26)[0]?).map (fun f => (f.type, f.offset, Tryz.prog.cellsOf f.type)) = some (23, 0, 1) := by kernel_rfl
theorem net_f1 : ((Tryz.prog.fieldsOf 26)[1]?).map (fun f => (f.type, f.offset, Tryz.prog.cellsOf f.type)) = some (24, 1, 1) := by kernel_rfl
theorem list2 {α : Type} {l : List α} (h : l.length = 2) : ∃ a b, l = [a, b] := by
 match l, h with
 | [a, b], _ => exact ⟨a, b, rfl⟩
set_option maxRecDepth 100000 in
theorem net_open {H : Type} {enc : TypeId × Value → H} {W : World} {r : Reach} {b0 base : Nat} {spare : Nat → Bool} {held : Bool} {v : Value} {d : DataW H} {p : List MemPlace}
  (hv : Value.okWide Tryz.prog W r b0 26 v) (h : DataW.Trod enc Tryz.prog W base spare held 26 v d p) (hz : Rows.uptoBulk d ≤ 1048576) :
  ∃ A N c1 c2 n, v = .agg #[.slice A n.inn.length c1, .slice N n.nodes.length c2] ∧ n.inn.length ≤ c1 ∧ c1 ≤ 9223372036854775807 ∧ n.nodes.length ≤ c2 ∧ c2 ≤ 9223372036854775807 ∧ NetR W A N n ∧ n.fits := by
 obtain ⟨cs, rfl, hsz⟩ := okWide_struct net_under hv
 obtain ⟨l⟩ := cs
 match l, hsz.trans net_cells with
 | [v0, v1], _ =>
  obtain ⟨fuel, hf⟩ := h
  obtain ⟨ys, n, _, hx, _, hlen, hg⟩ := DataW.trod_struct net_under hf
  rw [net_two] at hlen
  obtain ⟨y0, y1, rfl⟩ := list2 hlen
  simp only [Prod.mk.injEq, List.map_cons, List.map_nil] at hx
  obtain ⟨rfl, _⟩ := hx
  obtain ⟨f0, e0, t0⟩ := Option.map_eq_some_iff.1 net_f0
  simp only [Prod.mk.injEq] at t0
  have h0 := hg 0 f0 e0
  rw [t0.2.2, t0.2.1, t0.1] at h0
  simp [Value.cells] at h0
  obtain ⟨f1, e1, t1⟩ := Option.map_eq_some_iff.1 net_f1
  simp only [Prod.mk.injEq] at t1
  have h1 := hg 1 f1 e1
  rw [t1.2.2, t1.2.1, t1.1] at h1
  simp [Value.cells] at h1
  have hz0 : Rows.uptoBulk y0.1 ≤ 1048576 := by simp [Rows.uptoBulk, Rows.uptoBulkAll] at hz; omega
  have hz1 : Rows.uptoBulk y1.1 ≤ 1048576 := by simp [Rows.uptoBulk, Rows.uptoBulkAll] at hz; omega
  obtain ⟨A, c1, zs, rfl, a1, a2, a3, a4, a5⟩ := nums_open Tryz.underlying23 h0 hz0
  obtain ⟨N, c2, ns, rfl, b1, b2, b3, b4, b5⟩ := nodes_open h1 hz1
  exact ⟨A, N, c1, c2, ⟨zs, ns⟩, rfl, a2, a3, b2, b3, ⟨a1, b1⟩, a4, b4, a5, b5⟩
theorem NetD.fits.ok {n : NetD} (h : n.fits) : n.ok :=
 ⟨h.1, h.2.1, fun v hv => by
  obtain ⟨h1, h2, h3, h4, h5, h6, h7, h8⟩ := h.2.2.2 v hv
  exact ⟨h1, h2, h3, h4, h5, h7⟩⟩
end Go.Proofs.YtbnnpkcfifejmabGreat
namespace Go.Proofs.YtbnnpkcfifejmabGreat
open Go.RowKit
theorem ownsRow_base {w : World} {B B' e s n : Nat} {v : Value} {xs : List Value} (h : w.ownsRow B e s v n xs) (hB : B' ≤ B) : w.ownsRow B' e s v n xs := by
 refine ⟨h.1, ?_⟩
 rcases h.2 with h | ⟨g, cap, cur, h1, h2, h3⟩
 ·exact .inl h
 ·exact .inr ⟨g, cap, cur, h1, Nat.le_trans hB h2, h3⟩
abbrev RQ := NodeQ × List Value
def RQ.cells (x : RQ) : List Value := x.1.cells
def RQ.Phi (B : Nat) (x : RQ) (W : World) : Prop := W.ownsRow B 22 1 (.slice x.1.Q x.1.v.p.length x.1.q) x.1.v.p.length x.2
def RQ.Good (w : World) (x : RQ) : Prop := (Ints .i64 w x.1.S x.1.v.op.s ∧ x.1.v.op.s.length ≤ x.1.c ∧ x.1.c ≤ 9223372036854775807) ∧ (Ints .i64 w x.1.I x.1.v.ins ∧ x.1.v.ins.length ≤ x.1.d ∧ x.1.d ≤ 9223372036854775807) ∧ RowOf w x.2 x.1.v.p
def RefRow (t : TypeId) (B C : Nat) (w W : World) (v : Value) (ns : List NodeD) : Prop :=
 ∃ L : List RQ, L.map (fun x => x.1.v) = ns ∧ OwnRow B C W t 10 v RQ.cells (RQ.Phi B) L ∧ ∀ x ∈ L, RQ.Good w x
theorem RQ.len (x : RQ) : (RQ.cells x).length = 10 := rfl
theorem RefRow.nil (t : TypeId) (B : Nat) (w W : World) : RefRow t B W.heap.size w W (.slice none 0 0) [] := ⟨[], rfl, OwnRow.nil _ _ _ _ _ _, by simp⟩
theorem RefRow.form {t : TypeId} {B C : Nat} {w W : World} {v : Value} {ns : List NodeD} (h : RefRow t B C w W v ns) : ∃ A c, v = .slice A ns.length c ∧ ns.length ≤ c ∧ (∀ b, v.ownBlock = some b → B ≤ b ∧ b < C) := by
 obtain ⟨L, hL, hO, _⟩ := h
 obtain ⟨A, c, e, hc⟩ := hO.form
 have hl : L.length = ns.length := by rw [← hL]; simp
 rw [hl] at e hc
 exact ⟨A, c, e, hc, fun b hb => ⟨(hO.1.lt b hb).1, hO.2.1 b hb⟩⟩
theorem RefRow.fr {t : TypeId} {B C : Nat} {w W W' : World} {v : Value} {ns : List NodeD} {S : Nat → Prop} (h : RefRow t B C w W v ns) (hf : Fr S W W') (hS : ∀ b, B ≤ b → b < C → ¬ S b) : RefRow t B C w W' v ns := by
 obtain ⟨L, hL, hO, hG⟩ := h
 exact ⟨L, hL, hO.fr hf hS, hG⟩
theorem RefRow.nodes {t : TypeId} {B C : Nat} {w W : World} {v : Value} {ns : List NodeD} (h : RefRow t B C w W v ns) (hb : Below w.heap.size w W) :
  ∃ A c, v = .slice A ns.length c ∧ ns.length ≤ c ∧ c ≤ 9223372036854775807 ∧ Nodes W A ns := by
 obtain ⟨L, rfl, hO, hG⟩ := h
 rw [List.length_map]
 rcases hO.1.2 with ⟨rfl, h0⟩ | ⟨g, cap, cur, rfl, _, hh, hcap, hmax, _⟩
 ·have : L = [] := List.eq_nil_of_length_eq_zero h0
  subst this
  exact ⟨none, 0, rfl, by simp, by omega, fun j hj => absurd hj (by simp)⟩
 ·refine ⟨_, cap, rfl, hcap, by unfold maxLen at hmax; omega, fun j hj => ?_⟩
  rw [List.length_map] at hj
  obtain ⟨b, cap', e, _, _, _, hc⟩ := hO.at_ (fun x => RQ.len x) hj
  injection e with e _ _
  injection e with e
  injection e with e
  subst e
  obtain ⟨⟨s1, s2, s3⟩, ⟨i1, i2, i3⟩, hrow⟩ := hG L[j] (List.getElem_mem hj)
  have hphi := hO.now L[j] (List.getElem_mem hj)
  obtain ⟨AQ, cQ, eQ, _, hQ, q1, q2⟩ := hrow.shps hphi hb
  injection eQ with e1 _ e2
  rw [List.getElem_map]
  refine ⟨g, 0, L[j].1.S, L[j].1.c, L[j].1.I, L[j].1.d, L[j].1.Q, L[j].1.q, rfl, lt_of_block hh, ?_, ?_, ?_, ?_, ?_, ?_, ?_, ?_, ?_, ?_, ⟨s1.below hb (Nat.le_refl _), s2, s3⟩, ⟨i1.below hb (Nat.le_refl _), i2, i3⟩, by rw [e1]; exact hQ, by rw [e2]; exact q1, by rw [e2]; exact q2⟩
  ·have := hc 0 (by omega); first | (simp; done) | simpa [RQ.cells, NodeQ.cells] using this
  ·have := hc 1 (by omega); first | (simp; done) | simpa [RQ.cells, NodeQ.cells] using this
  ·have := hc 2 (by omega); first | (simp; done) | simpa [RQ.cells, NodeQ.cells] using this
  ·have := hc 3 (by omega); first | (simp; done) | simpa [RQ.cells, NodeQ.cells] using this
  ·have := hc 4 (by omega); first | (simp; done) | simpa [RQ.cells, NodeQ.cells] using this
  ·have := hc 5 (by omega); first | (simp; done) | simpa [RQ.cells, NodeQ.cells] using this
  ·have := hc 6 (by omega); first | (simp; done) | simpa [RQ.cells, NodeQ.cells] using this
  ·have := hc 7 (by omega); first | (simp; done) | simpa [RQ.cells, NodeQ.cells] using this
  ·have := hc 8 (by omega); first | (simp; done) | simpa [RQ.cells, NodeQ.cells] using this
  ·have := hc 9 (by omega); first | (simp; done) | simpa [RQ.cells, NodeQ.cells] using this
theorem refrow_push {t : TypeId} {B C : Nat} {w W W' : World} {v v' : Value} {L : List RQ} {x : NodeQ} {vs : List Value} {C2 : Nat} (hO : OwnRow B C W t 10 v RQ.cells (RQ.Phi B) L) (hGL : ∀ x ∈ L, RQ.Good w x) (hC : C ≤ C2) (hB : B ≤ C2)
  (hown : W'.ownsRow B t 10 v' (L.length + 1) (L.flatMap RQ.cells ++ x.cells)) (hg : W.grownBy W' v.ownBlock) (hat : v'.ownBlock = v.ownBlock ∨ v'.ownBlock = some W.heap.size)
  (hx : W.ownsRow C2 22 1 (.slice x.Q x.v.p.length x.q) x.v.p.length vs) (hG : RQ.Good w (x, vs)) : RefRow t B W'.heap.size w W' v' (L.map (fun x => x.1.v) ++ [x.v]) := by
 refine ⟨L ++ [(x, vs)], by simp, ?_, fun y hy => ?_⟩
 ·refine hO.push (x := ((x, vs) : RQ)) hown hg hat (F := fun b => (Value.slice x.Q x.v.p.length x.q).ownBlock = some b) (fun W2 h2 => ?_) (fun b hb => ?_)
  ·exact ownsRow_heap (ownsRow_base hx hB) h2
  ·obtain ⟨h1, h2⟩ := hx.lt b hb
   exact ⟨by omega, h2, fun e => by have := hO.2.1 b e.symm; omega⟩
 ·rcases List.mem_append.1 hy with hy | hy
  ·exact hGL y hy
  ·simp at hy; subst hy; exact hG
def RefNetP (n : NetD) (A : Option Addr) (c : Nat) (w : World) (e : Ending) (w' : World) : Prop :=
 ∃ N' d', e = .returned (.agg #[.slice A n.inn.length c, .slice N' n.nodes.length d']) ∧ NetR w' A N' n ∧ n.nodes.length ≤ d' ∧ d' ≤ 9223372036854775807 ∧ Below w.heap.size w w'
def RInv (tN tR tE : TypeId) (n : NetD) (A N : Option Addr) (c d : Nat) (w0 w : World) (k : Nat) (wx : World) : Prop :=
 Blk wx w.heap.size tN #[.slice A n.inn.length c, .slice N n.nodes.length d] ∧ Blk wx (w.heap.size + 1) tR #[.slice none 0 0, .slice none 0 0] ∧ Below w.heap.size w wx ∧
  ∃ v, Blk wx (w.heap.size + 2) tR #[.slice A n.inn.length c, v] ∧ RefRow tE (w.heap.size + 3) wx.heap.size w0 wx v (n.nodes.take k)
def RefNetS (t : TypeId) (n : NetD) (A : Option Addr) (c : Nat) (w0 w : World) (e : Ending) (w' : World) : Prop :=
 ∃ N' d' C, e = .returned (.agg #[.slice A n.inn.length c, .slice N' n.nodes.length d']) ∧ n.nodes.length ≤ d' ∧ d' ≤ 9223372036854775807 ∧ Below w.heap.size w w' ∧ RefRow t (w.heap.size + 3) C w0 w' (.slice N' n.nodes.length d') n.nodes
theorem RefRow.net {t : TypeId} {B C : Nat} {w W : World} {A N N' : Option Addr} {d' : Nat} {n : NetD} (h : RefRow t B C w W (.slice N' n.nodes.length d') n.nodes) (hb : Later w W) (hR : NetR w A N n) : NetR W A N' n := by
 obtain ⟨N2, d2, e2, -, -, hNodes⟩ := h.nodes hb
 injection e2 with e3 _ _
 subst e3
 exact ⟨hR.1.below hb (Nat.le_refl _), hNodes⟩
theorem RefNetS.netp {t : TypeId} {n : NetD} {A N : Option Addr} {c : Nat} {w w' : World} {e : Ending} (h : RefNetS t n A c w w e w') (hR : NetR w A N n) : RefNetP n A c w e w' := by
 obtain ⟨N', d', C, rfl, h1, h2, hb, hr⟩ := h
 exact ⟨N', d', rfl, hr.net hb hR, h1, h2, hb⟩
theorem refnode_info : (Tryz.prog.info? 93).map (fun i => (i.zero, i.size, i.bytes)) = some (some (.agg #[.int .i64 0, .int .i64 0, .int .i64 0, .int .i64 0, .int .i64 0, .int .i64 0, .int .i64 0, .slice none 0 0, .slice none 0 0, .slice none 0 0]), 10, 128) := by kernel_rfl
set_option maxRecDepth 20000 in
set_option maxHeartbeats 16000000 in
theorem ref_14s (A N : Option Addr) (c d : Nat) (n : NetD) (w0 w : World) (hok : n.ok) (hl0 : Later w0 w) (hR : NetR w0 A N n) :
  Calls Tryz.prog 14 #[.agg #[.slice A n.inn.length c, .slice N n.nodes.length d]] w (RefNetS 93 n A c w0 w) := by
 obtain ⟨i1, hj, hy0, hy1, hy2⟩ := info_parts shpsT_info
 obtain ⟨i2, hn, hn0, hn1, hn2⟩ := info_parts refnode_info
 have hnl := hok.2.1
 have hbx := below3 w (.cells #[.slice A n.inn.length c, .slice N n.nodes.length d] 26) (.cells #[.slice none 0 0, .slice none 0 0] 57) (.cells #[.slice A n.inn.length c, .slice none 0 0] 57)
 have hk1 := ((Blk.new w 26 #[.slice A n.inn.length c, .slice N n.nodes.length d]).alloc (.cells #[.slice none 0 0, .slice none 0 0] 57)).alloc (.cells #[.slice A n.inn.length c, .slice none 0 0] 57)
 have hk2 := (Blk.new (w.alloc (.cells #[.slice A n.inn.length c, .slice N n.nodes.length d] 26)) 57 #[.slice none 0 0, .slice none 0 0]).alloc (.cells #[.slice A n.inn.length c, .slice none 0 0] 57)
 have hk3 := Blk.new ((w.alloc (.cells #[.slice A n.inn.length c, .slice N n.nodes.length d] 26)).alloc (.cells #[.slice none 0 0, .slice none 0 0] 57)) 57 #[.slice A n.inn.length c, .slice none 0 0]
 rw [World.size_alloc] at hk2
 rw [World.size_alloc, World.size_alloc] at hk3
 have Hok := Lib.hid hok
 have HR := Lib.hid hR
 have Hk1 := Lib.hid hk1
 have Hk2 := Lib.hid hk2
 have Hk3 := Lib.hid hk3
 clear hok hR hk1 hk2 hk3
 go_enter Tryz.func14, Tryz.ntmps14
 go_wp2_with fail
 generalize ((w.alloc (.cells #[.slice A n.inn.length c, .slice N n.nodes.length d] 26)).alloc (.cells #[.slice none 0 0, .slice none 0 0] 57)).alloc (.cells #[.slice A n.inn.length c, .slice none 0 0] 57) = w1 at *
 have HI1 := Lib.hid (show RInv 26 57 93 n A N c d w0 w 0 w1 from ⟨Hk1.out, Hk2.out, hbx, _, Hk3.out, by rw [List.take_zero]; exact RefRow.nil _ _ _ _⟩)
 clear Hk1 Hk2 Hk3 hbx
 go_loopw [15] (fun i wx => ∃ k : Nat, k ≤ n.nodes.length ∧ i = .int .i64 (k : Int) ∧ RInv 26 57 93 n A N c d w0 w k wx) (fun i _ => n.nodes.length - (intOf i).toNat)
 case atStart => exact ⟨0, Nat.zero_le _, rfl, HI1.out⟩
 case round =>
  obtain ⟨k, hk, rfl, hb1, hb2, hbw, v0, hb3, hrow⟩ := hrel
  clear HI1
  have hl3 := hb3.lt
  by_cases hlt : k < n.nodes.length
  ·obtain ⟨b, off, S, sc, J, ic, Q, qc, rfl, hNA, hs1, hI1, hq1⟩ := HR.out.2.at_ hlt
   have hnok := Hok.out.2.2 _ (List.getElem_mem hlt)
   have htk := List.take_succ_eq_append_getElem hlt
   have hpl := hnok.2.2.2.1
   have hSi := hNA.2.1
   have hJi := hNA.2.2.1
   have hQi := hNA.2.2.2
   generalize n.nodes[k] = v at *
   obtain ⟨⟨y0, y1, y2, y3, y4, y5, y6, y7, y8, y9⟩, -⟩ := hNA.below (hl0.call hbw)
   have hkn := (Blk.new wr 47 #[.int .i64 v.op.kind, .int .i64 v.op.k, .int .i64 v.op.width, .int .i64 v.op.step, .int .i64 v.op.side, .int .i64 v.op.frm, .int .i64 v.op.to, .slice S v.op.s.length sc, .slice J v.ins.length ic, .slice Q v.p.length qc]).alloc (.cells #[.int .i64 v.op.kind, .int .i64 v.op.k, .int .i64 v.op.width, .int .i64 v.op.step, .int .i64 v.op.side, .int .i64 v.op.frm, .int .i64 v.op.to, .slice S v.op.s.length sc, .slice J v.ins.length ic, .slice none 0 0] 93)
   have hky := Blk.new (wr.alloc (.cells #[.int .i64 v.op.kind, .int .i64 v.op.k, .int .i64 v.op.width, .int .i64 v.op.step, .int .i64 v.op.side, .int .i64 v.op.frm, .int .i64 v.op.to, .slice S v.op.s.length sc, .slice J v.ins.length ic, .slice Q v.p.length qc] 47)) 93 #[.int .i64 v.op.kind, .int .i64 v.op.k, .int .i64 v.op.width, .int .i64 v.op.step, .int .i64 v.op.side, .int .i64 v.op.frm, .int .i64 v.op.to, .slice S v.op.s.length sc, .slice J v.ins.length ic, .slice none 0 0]
   rw [World.size_alloc] at hky
   have hbn : Below wr.heap.size wr ((wr.alloc (.cells #[.int .i64 v.op.kind, .int .i64 v.op.k, .int .i64 v.op.width, .int .i64 v.op.step, .int .i64 v.op.side, .int .i64 v.op.frm, .int .i64 v.op.to, .slice S v.op.s.length sc, .slice J v.ins.length ic, .slice Q v.p.length qc] 47)).alloc (.cells #[.int .i64 v.op.kind, .int .i64 v.op.k, .int .i64 v.op.width, .int .i64 v.op.step, .int .i64 v.op.side, .int .i64 v.op.frm, .int .i64 v.op.to, .slice S v.op.s.length sc, .slice J v.ins.length ic, .slice none 0 0] 93)) := below2 wr _ _
   have Hb1 := Lib.hid hb1
   have Hb2 := Lib.hid hb2
   have Hb3 := Lib.hid hb3
   have Hrow := Lib.hid hrow
   have HNA := Lib.hid hNA
   have Hnok := Lib.hid hnok
   have Htk := Lib.hid htk
   have HSi := Lib.hid hSi
   have HJi := Lib.hid hJi
   have HQi := Lib.hid hQi
   have Hkn := Lib.hid hkn
   have Hky := Lib.hid hky
   clear hb1 hb2 hb3 hrow hNA hnok htk hSi hJi hQi hkn hky
   go_wp2_with fail
   clear y0 y1 y2 y3 y4 y5 y6 y7 y8 y9
   generalize ((wr.alloc (.cells #[.int .i64 v.op.kind, .int .i64 v.op.k, .int .i64 v.op.width, .int .i64 v.op.step, .int .i64 v.op.side, .int .i64 v.op.frm, .int .i64 v.op.to, .slice S v.op.s.length sc, .slice J v.ins.length ic, .slice Q v.p.length qc] 47)).alloc (.cells #[.int .i64 v.op.kind, .int .i64 v.op.k, .int .i64 v.op.width, .int .i64 v.op.step, .int .i64 v.op.side, .int .i64 v.op.frm, .int .i64 v.op.to, .slice S v.op.s.length sc, .slice J v.ins.length ic, .slice none 0 0] 93)) = w2 at *
   obtain ⟨wo, rfl⟩ : ∃ wo, wo = wr := ⟨wr, rfl⟩
   go_loopw [50] (fun i wx => ∃ (m : Nat) (vs : List Value) (u : Value), m ≤ v.p.length ∧ i = .int .i64 (m : Int) ∧ Blk wx wo.heap.size 47 #[.int .i64 v.op.kind, .int .i64 v.op.k, .int .i64 v.op.width, .int .i64 v.op.step, .int .i64 v.op.side, .int .i64 v.op.frm, .int .i64 v.op.to, .slice S v.op.s.length sc, .slice J v.ins.length ic, .slice Q v.p.length qc] ∧ Blk wx (wo.heap.size + 1) 93 #[.int .i64 v.op.kind, .int .i64 v.op.k, .int .i64 v.op.width, .int .i64 v.op.step, .int .i64 v.op.side, .int .i64 v.op.frm, .int .i64 v.op.to, .slice S v.op.s.length sc, .slice J v.ins.length ic, u] ∧ wx.ownsRow (wo.heap.size + 2) 22 1 u m vs ∧ RowOf w0 vs (v.p.take m) ∧ Below wo.heap.size wo wx ∧ wo.heap.size + 2 ≤ wx.heap.size) (fun i _ => v.p.length - (intOf i).toNat)
   case atStart => exact ⟨0, [], _, Nat.zero_le _, rfl, Hkn.out, Hky.out, World.ownsRow_nil _ _ _ _, RowOf.nil _, hbn, by have := Hky.out.lt; omega⟩
   case round =>
    obtain ⟨m, vs, u, hm, rfl, hkn, hky, hown, hro, hbx, hsz⟩ := hrel
    clear Hkn Hky
    obtain ⟨A9, c9, rfl⟩ := own_form hown
    by_cases hlm : m < v.p.length
    ·have hbwx := hbw.trans (hbx.mono hbw.size)
     obtain ⟨b5, o5, Ss, cs, rfl, -, hcs, hIs, hs5, hs6⟩ := HQi.out m hlm
     have hcs2 := cell_below (hl0.call hbwx) hcs
     have hpush := hro.push hIs hs5 hs6
     rw [← List.take_succ_eq_append_getElem hlm] at hpush
     have y9 : wr.cell? ⟨wo.heap.size + 1, 9, none⟩ = some (.slice A9 m c9) := by rw [hky.cell]; rfl
     have f9 := hky.frozen 9
     generalize v.p[m] = t at *
     have ho := ownsRow_new hown (.cells #[.slice Ss t.length cs] 22)
     have hbx2 := hbx.alloc hbx.size (.cells #[.slice Ss t.length cs] 22)
     have hkn2 := hkn.alloc (.cells #[.slice Ss t.length cs] 22)
     have hky2 := hky.alloc (.cells #[.slice Ss t.length cs] 22)
     have hlo : ∀ b, (Value.slice A9 m c9).ownBlock = some b → wo.heap.size + 2 ≤ b := fun b hb => (hown.lt b hb).1
     have Hkn := Lib.hid hkn
     have Hky := Lib.hid hky
     have Hro := Lib.hid hro
     have Hpush := Lib.hid hpush
     have Hkn2 := Lib.hid hkn2
     have Hky2 := Lib.hid hky2
     have Hlo := Lib.hid hlo
     have HIs := Lib.hid hIs
     clear hkn hky hro hpush hkn2 hky2 hlo hIs
     clear hown hcs
     go_wp2_with (at_builtin; refine wpList_append_own_at _ rfl _ _ 52 rfl (wo.heap.size + 2) 22 i1 (.slice none 0 0) 1 24 Tryz.underlying52 hj hy0 hy1 hy2 rfl (by decide) _ _ _ rfl ho ⟨wr.heap.size, 0, none⟩ 1 1 [.slice Ss t.length cs] rfl rfl ?c1 (by intro u hu; simp at hu; subst hu; rfl) (by unfold maxLen; omega) (by omega) ?c2 ?_)
     first | (case c1 => exact one_new wr _ _) | skip
     case c2 => first | (simp; omega) | omega
     intro v' w3 hown' hgrow _ hat
     obtain ⟨A8, c8, rfl⟩ := own_form hown'
     have hb3 : Below wo.heap.size wo w3 := hbx2.grown hgrow hbx2.size (fun b hb => by have := Hlo.out b hb; omega)
     have hs3 := hgrow.size
     simp at hs3
     have hkn3 := Hkn2.out.grown hgrow (fun e => by have := Hlo.out _ e.symm; omega)
     have hky3 := Hky2.out.grown hgrow (fun e => by have := Hlo.out _ e.symm; omega)
     have y9' : w3.cell? ⟨wo.heap.size + 1, 9, none⟩ = some (.slice A9 m c9) := by rw [hky3.cell]; rfl
     have f9' := hky3.frozen 9
     have HK := Lib.hid (hkn3.far (p := ⟨wo.heap.size + 1, 9, none⟩) (by simp) (.slice A8 (m + 1) c8))
     have hky4 := hky3.set_ 9 (.slice A8 (m + 1) c8)
     have HY := Lib.hid (show Blk (w3.setCell ⟨wo.heap.size + 1, 9, none⟩ (.slice A8 (m + 1) c8)) (wo.heap.size + 1) 93 #[.int .i64 v.op.kind, .int .i64 v.op.k, .int .i64 v.op.width, .int .i64 v.op.step, .int .i64 v.op.side, .int .i64 v.op.frm, .int .i64 v.op.to, .slice S v.op.s.length sc, .slice J v.ins.length ic, .slice A8 (m + 1) c8] from hky4)
     have hb4 := hb3.setCell (p := ⟨wo.heap.size + 1, 9, none⟩) (by simp) (.slice A8 (m + 1) c8)
     have HO3 := Lib.hid (ownsRow_heap (w' := w3.setCell ⟨wo.heap.size + 1, 9, none⟩ (.slice A8 (m + 1) c8)) hown' (fun g hg => Below.heap_setCell w3 _ _ g (by have := (hown'.lt g hg).1; simp; omega)))
     clear hown' hgrow hat ho hbx2 hkn3 hky3 hky4 y9 f9
     go_wp2_with fail
     go_roundw
     case rel => exact ⟨m + 1, _, _, by omega, by go_num, HK.out, HY.out, HO3.out, Hpush.out, hb4, by simp; omega⟩
     case measure => simp [intOf]; omega
    ·obtain rfl : m = v.p.length := by omega
     rw [List.take_length] at hro
     have hbwx := hbw.trans (hbx.mono hbw.size)
     obtain ⟨y0, y1, y2, y3, y4, y5, y6, y7, y8, y9⟩ : wr.cell? ⟨wo.heap.size + 1, 0, none⟩ = some (.int .i64 v.op.kind) ∧ wr.cell? ⟨wo.heap.size + 1, 1, none⟩ = some (.int .i64 v.op.k) ∧ wr.cell? ⟨wo.heap.size + 1, 2, none⟩ = some (.int .i64 v.op.width) ∧ wr.cell? ⟨wo.heap.size + 1, 3, none⟩ = some (.int .i64 v.op.step) ∧ wr.cell? ⟨wo.heap.size + 1, 4, none⟩ = some (.int .i64 v.op.side) ∧ wr.cell? ⟨wo.heap.size + 1, 5, none⟩ = some (.int .i64 v.op.frm) ∧ wr.cell? ⟨wo.heap.size + 1, 6, none⟩ = some (.int .i64 v.op.to) ∧ wr.cell? ⟨wo.heap.size + 1, 7, none⟩ = some (.slice S v.op.s.length sc) ∧ wr.cell? ⟨wo.heap.size + 1, 8, none⟩ = some (.slice J v.ins.length ic) ∧ wr.cell? ⟨wo.heap.size + 1, 9, none⟩ = some (.slice A9 v.p.length c9) := ⟨hky.cell 0, hky.cell 1, hky.cell 2, hky.cell 3, hky.cell 4, hky.cell 5, hky.cell 6, hky.cell 7, hky.cell 8, hky.cell 9⟩
     obtain ⟨L, hL, hOL, hGL⟩ := Hrow.out
     obtain ⟨A0, c0, rfl, h00⟩ := hOL.form
     have hkl : L.length = k := by have := congrArg List.length hL; simp at this; omega
     have hb3x := Hb3.out.below hbx (by omega)
     have hb1x := Hb1.out.below hbx (by have := Hb1.out.lt; omega)
     have hb2x := Hb2.out.below hbx (by have := Hb2.out.lt; omega)
     rw [hkl] at h00
     have hfrx : Fr (fun b => wo.heap.size ≤ b) wo wr := Fr.of_below hbx (fun b hb hS => by omega)
     have hOx := (hOL.fr hfrx (fun b h1 h2 h3 => by omega)).fr ((Fr.refl (fun _ => False) wr).alloc (.cells #[.int .i64 v.op.kind, .int .i64 v.op.k, .int .i64 v.op.width, .int .i64 v.op.step, .int .i64 v.op.side, .int .i64 v.op.frm, .int .i64 v.op.to, .slice S v.op.s.length sc, .slice J v.ins.length ic, .slice A9 v.p.length c9] 93)) (fun b h1 h2 h3 => h3)
     have hownx := ownsRow_new hown (.cells #[.int .i64 v.op.kind, .int .i64 v.op.k, .int .i64 v.op.width, .int .i64 v.op.step, .int .i64 v.op.side, .int .i64 v.op.frm, .int .i64 v.op.to, .slice S v.op.s.length sc, .slice J v.ins.length ic, .slice A9 v.p.length c9] 93)
     have hb3y := hb3x.alloc (.cells #[.int .i64 v.op.kind, .int .i64 v.op.k, .int .i64 v.op.width, .int .i64 v.op.step, .int .i64 v.op.side, .int .i64 v.op.frm, .int .i64 v.op.to, .slice S v.op.s.length sc, .slice J v.ins.length ic, .slice A9 v.p.length c9] 93)
     have hb1y := hb1x.alloc (.cells #[.int .i64 v.op.kind, .int .i64 v.op.k, .int .i64 v.op.width, .int .i64 v.op.step, .int .i64 v.op.side, .int .i64 v.op.frm, .int .i64 v.op.to, .slice S v.op.s.length sc, .slice J v.ins.length ic, .slice A9 v.p.length c9] 93)
     have hb2y := hb2x.alloc (.cells #[.int .i64 v.op.kind, .int .i64 v.op.k, .int .i64 v.op.width, .int .i64 v.op.step, .int .i64 v.op.side, .int .i64 v.op.frm, .int .i64 v.op.to, .slice S v.op.s.length sc, .slice J v.ins.length ic, .slice A9 v.p.length c9] 93)
     have hbwy := hbwx.alloc hbwx.size (.cells #[.int .i64 v.op.kind, .int .i64 v.op.k, .int .i64 v.op.width, .int .i64 v.op.step, .int .i64 v.op.side, .int .i64 v.op.frm, .int .i64 v.op.to, .slice S v.op.s.length sc, .slice J v.ins.length ic, .slice A9 v.p.length c9] 93)
     have hd6 := Blk.new wr 93 #[.int .i64 v.op.kind, .int .i64 v.op.k, .int .i64 v.op.width, .int .i64 v.op.step, .int .i64 v.op.side, .int .i64 v.op.frm, .int .i64 v.op.to, .slice S v.op.s.length sc, .slice J v.ins.length ic, .slice A9 v.p.length c9]
     have hlo : ∀ b, (Value.slice A0 L.length c0).ownBlock = some b → w.heap.size + 3 ≤ b := fun b hb => (hOL.1.lt b hb).1
     rw [hkl] at hlo
     have z1 : wr.cell? ⟨w.heap.size + 2, 1, none⟩ = some (.slice A0 k c0) := by rw [hb3x.cell, hkl]; rfl
     have hO1 := hOx.1
     rw [hkl] at hO1
     have Hkn := Lib.hid hkn
     have Hky := Lib.hid hky
     have Hown := Lib.hid hown
     have Hro := Lib.hid hro
     have Hb3x := Lib.hid hb3x
     have Hb1x := Lib.hid hb1x
     have Hb2x := Lib.hid hb2x
     have HOx := Lib.hid hOx
     have Hownx := Lib.hid hownx
     have Hb3y := Lib.hid hb3y
     have Hb1y := Lib.hid hb1y
     have Hb2y := Lib.hid hb2y
     have Hd6 := Lib.hid hd6
     have Hlo := Lib.hid hlo
     have HL := Lib.hid hL
     have HGL := Lib.hid hGL
     have HOL := Lib.hid hOL
     have Hkl := Lib.hid hkl
     have HO1 := Lib.hid hO1
     clear hkn hky hown hro hb3x hb1x hb2x hOx hownx hb3y hb1y hb2y hd6 hlo hL hGL hOL hkl hO1
     clear Hrow Hb1 Hb2 Hb3 hfrx
     go_wp2_with (at_builtin; refine wpList_append_own_at _ rfl _ _ 55 rfl (w.heap.size + 3) 93 i2 (.agg #[.int .i64 0, .int .i64 0, .int .i64 0, .int .i64 0, .int .i64 0, .int .i64 0, .int .i64 0, .slice none 0 0, .slice none 0 0, .slice none 0 0]) 10 128 Tryz.underlying55 hn hn0 hn1 hn2 rfl (by decide) _ k (L.flatMap RQ.cells) rfl HO1.out ⟨wr.heap.size, 0, none⟩ 1 1 [.int .i64 v.op.kind, .int .i64 v.op.k, .int .i64 v.op.width, .int .i64 v.op.step, .int .i64 v.op.side, .int .i64 v.op.frm, .int .i64 v.op.to, .slice S v.op.s.length sc, .slice J v.ins.length ic, .slice A9 v.p.length c9] rfl rfl ?c1 ?c2 ?c3 ?c4 ?c5 ?_)
     case c1 => exact World.news_of_block (cs := #[.int .i64 v.op.kind, .int .i64 v.op.k, .int .i64 v.op.width, .int .i64 v.op.step, .int .i64 v.op.side, .int .i64 v.op.frm, .int .i64 v.op.to, .slice S v.op.s.length sc, .slice J v.ins.length ic, .slice A9 v.p.length c9]) Hd6.out
     case c2 => intro u hu; simp at hu; rcases hu with rfl | rfl | rfl | rfl | rfl | rfl | rfl | rfl | rfl | rfl <;> rfl
     case c3 => unfold maxLen; omega
     case c4 => omega
     case c5 => simp; omega
     intro v7 w7 hown7 hg7 _ hat7
     obtain ⟨A7, c7, rfl⟩ := own_form hown7
     have hsa : wr.heap.size + 1 = (wr.alloc (.cells #[.int .i64 v.op.kind, .int .i64 v.op.k, .int .i64 v.op.width, .int .i64 v.op.step, .int .i64 v.op.side, .int .i64 v.op.frm, .int .i64 v.op.to, .slice S v.op.s.length sc, .slice J v.ins.length ic, .slice A9 v.p.length c9] 93)).heap.size := by simp
     rw [hsa] at hat7
     clear hsa
     have hkl := Hkl.out
     generalize (wr.alloc (.cells #[.int .i64 v.op.kind, .int .i64 v.op.k, .int .i64 v.op.width, .int .i64 v.op.step, .int .i64 v.op.side, .int .i64 v.op.frm, .int .i64 v.op.to, .slice S v.op.s.length sc, .slice J v.ins.length ic, .slice A9 v.p.length c9] 93)) = w6 at *
     have hg8 := hg7
     rw [← hkl] at hown7 hg8 hat7
     have hpush := refrow_push (x := (⟨v, S, sc, J, ic, A9, c9⟩ : NodeQ)) (vs := vs) HOx.out HGL.out (C2 := wo.heap.size + 2) (by omega) (by omega) hown7 hg8 hat7 Hownx.out ⟨⟨HSi.out, hs1⟩, ⟨HJi.out, hI1⟩, Hro.out⟩
     rw [HL.out] at hpush
     have hpush : RefRow 93 (w.heap.size + 3) w7.heap.size w0 w7 (.slice A7 (L.length + 1) c7) (n.nodes.take (k + 1)) := by rw [Htk.out]; exact hpush
     rw [hkl] at hpush
     have hb3z := Hb3y.out.grown hg7 (fun e => by have := Hlo.out _ e.symm; omega)
     have hb1z := Hb1y.out.grown hg7 (fun e => by have := Hlo.out _ e.symm; omega)
     have hb2z := Hb2y.out.grown hg7 (fun e => by have := Hlo.out _ e.symm; omega)
     rw [hkl] at hb3z
     have hbwz : Below w.heap.size w w7 := hbwy.grown hg7 hbwy.size (fun b hb => by have := Hlo.out b hb; omega)
     have z1' : w7.cell? ⟨w.heap.size + 2, 1, none⟩ = some (.slice A0 k c0) := by rw [hb3z.cell]; rfl
     have f1' := hb3z.frozen 1
     have hfs : Fr (fun b => b = w.heap.size + 2) w7 (w7.setCell ⟨w.heap.size + 2, 1, none⟩ (.slice A7 (k + 1) c7)) := (Fr.refl (fun b => b = w.heap.size + 2) w7).setCell (p := ⟨w.heap.size + 2, 1, none⟩) (fun _ => rfl) (.slice A7 (k + 1) c7)
     have HP := Lib.hid (hpush.fr hfs (fun b h1 h2 h3 => by omega))
     have H1 := Lib.hid (hfs.blk hb1z (by omega))
     have H2 := Lib.hid (hfs.blk hb2z (by omega))
     have h3 := hb3z.set_ 1 (.slice A7 (k + 1) c7)
     have H3 := Lib.hid (show Blk (w7.setCell ⟨w.heap.size + 2, 1, none⟩ (.slice A7 (k + 1) c7)) (w.heap.size + 2) 57 #[.slice A n.inn.length c, .slice A7 (k + 1) c7] from h3)
     have H4 := Lib.hid (hbwz.setCell (p := ⟨w.heap.size + 2, 1, none⟩) (by simp) (.slice A7 (k + 1) c7))
     clear hown7 hg7 hg8 hat7 hpush hb3z hb1z hb2z hbwz hfs h3 hkl hbwy hbwx
     go_wp2_with fail
     go_roundw
     case rel => exact ⟨k + 1, by omega, by go_num, H1.out, H2.out, H4.out, _, H3.out, by simpa using HP.out⟩
     case measure => simp [intOf]; omega
  ·obtain rfl : k = n.nodes.length := by omega
   rw [List.take_length] at hrow
   obtain ⟨N', d', rfl, hd1, hd2, -⟩ := hrow.nodes (hl0.call hbw)
   have hfr : Fr (fun b => b = w.heap.size + 1) wr ((wr.setCell ⟨w.heap.size + 1, 0, none⟩ (.slice A n.inn.length c)).setCell ⟨w.heap.size + 1, 1, none⟩ (.slice N' n.nodes.length d')) := ((Fr.refl (fun b => b = w.heap.size + 1) wr).setCell (p := ⟨w.heap.size + 1, 0, none⟩) (fun _ => rfl) _).setCell (p := ⟨w.heap.size + 1, 1, none⟩) (fun _ => rfl) _
   have hbw2 : Below w.heap.size w ((wr.setCell ⟨w.heap.size + 1, 0, none⟩ (.slice A n.inn.length c)).setCell ⟨w.heap.size + 1, 1, none⟩ (.slice N' n.nodes.length d')) := (hbw.setCell (p := ⟨w.heap.size + 1, 0, none⟩) (by simp) _).setCell (p := ⟨w.heap.size + 1, 1, none⟩) (by simp) _
   have HRw := Lib.hid (hrow.fr hfr (fun b h1 h2 h3 => by omega))
   have z0 : wr.cell? ⟨w.heap.size + 2, 0, none⟩ = some (.slice A n.inn.length c) := by rw [hb3.cell]; rfl
   have z1 : wr.cell? ⟨w.heap.size + 2, 1, none⟩ = some (.slice N' n.nodes.length d') := by rw [hb3.cell]; rfl
   have r0 : wr.cell? ⟨w.heap.size + 1, 0, none⟩ = some (.slice none 0 0) := by rw [hb2.cell]; rfl
   have r1 : wr.cell? ⟨w.heap.size + 1, 1, none⟩ = some (.slice none 0 0) := by rw [hb2.cell]; rfl
   have f0 := hb2.frozen 0
   have f1 := hb2.frozen 1
   clear hfr
   have Hb1 := Lib.hid hb1
   have Hb2 := Lib.hid hb2
   have Hb3 := Lib.hid hb3
   have Hrow := Lib.hid hrow
   clear hb1 hb2 hb3 hrow
   go_wp2_with fail
   exact bodyPost_ret (v := .agg #[.slice A n.inn.length c, .slice N' n.nodes.length d']) (by simp [results, Tryz.results14, go_sem, r0, r1]) rfl ⟨N', d', _, rfl, hd1, hd2, hbw2, HRw.out⟩
theorem ref_14 (A N : Option Addr) (c d : Nat) (n : NetD) (w : World) (hok : n.ok) (hR : NetR w A N n) :
  Calls Tryz.prog 14 #[.agg #[.slice A n.inn.length c, .slice N n.nodes.length d]] w (RefNetP n A c w) :=
 (ref_14s A N c d n w w hok (Later.refl _) hR).mono fun _ _ h => h.netp hR
end Go.Proofs.YtbnnpkcfifejmabGreat
