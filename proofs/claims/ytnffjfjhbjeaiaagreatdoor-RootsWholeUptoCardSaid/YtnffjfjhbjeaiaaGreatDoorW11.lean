/- Lemmas for the statements of this seat: contracts of functions and the plain laws. -/
import Derived.BigQuiet
import Derived.ChangeSame
import Derived.Deep.DeepCutAuto
import Derived.Deep.Fields
import Derived.Deep.RegionLaw
import Derived.Deep.Slices
import Derived.OpenShut
import Derived.ProofKit
import Derived.Test.YtnffjfjhbjeaiaaGreatDoorRows
import Derived.Test.YtnffjfjhbjeaiaaGreatDoorW10
set_option linter.unusedVariables false
/- Layer 18 (check): Run: contract. -/
namespace Go.Proofs.YtnffjfjhbjeaiaaGreatDoor
open Go.RowKit
def statsV (r : (Int × Int × Int × Int) × Int) : Value := .tuple #[.agg #[.int .i64 r.1.1, .int .i64 r.1.2.1, .int .i64 r.1.2.2.1, .int .i64 r.1.2.2.2], .int .i64 r.2]
def RunP (n : NetD) (ps : List (Int × Int)) (cap : Int) (W : World) (e : Ending) (w' : World) : Prop := e = .returned (statsV (Ck.run n ps cap)) ∧ Later W w'
theorem CkF.to_later {a : CkA} {c : CkN} {W0 W W' : World} {s : CkS} (h : CkF a c W0 s W W') (hS : a.Still c W0) (hl : Later W0 W) : Later W0 W' :=
  Below.trans hl (h.fr.below (B := W0.heap.size) (fun b hb => Nat.le_trans hS.hp hb.1) (Below.size hl))
theorem Ints.tail_ {k : IntKind} {w : World} {b off : Nat} {zs : List Int} (h : Ints k w (some ⟨b, off, none⟩) zs) (n : Nat) : Ints k w (some ⟨b, off + n, none⟩) (zs.drop n) := Ints.of_row fun j hj => by
  rw [List.length_drop] at hj
  obtain ⟨b', o', e, -, hc⟩ := h (n + j) (by omega)
  cases e
  rw [Nat.add_assoc, hc]
  simp [List.getD_eq_getElem?_getD]
theorem box4 {W w : World} {g : Nat} (h : Later W w) (hg : W.heap.size ≤ g) (a b c d : Value) : Later W ((((w.setCell ⟨g, 0, none⟩ a).setCell ⟨g, 1, none⟩ b).setCell ⟨g, 2, none⟩ c).setCell ⟨g, 3, none⟩ d) :=
  (((h.set (p := ⟨g, 0, none⟩) hg a).set (p := ⟨g, 1, none⟩) hg b).set (p := ⟨g, 2, none⟩) hg c).set (p := ⟨g, 3, none⟩) hg d
theorem four_cells {w : World} {g : Nat} {t : TypeId} {a b c d : Value} (h : Blk w g t #[a, b, c, d]) : (w.cell? ⟨g, 0, none⟩ = some a ∧ w.cell? ⟨g, 1, none⟩ = some b ∧ w.cell? ⟨g, 2, none⟩ = some c ∧ w.cell? ⟨g, 3, none⟩ = some d) ∧ w.frozen? ⟨g, 0, none⟩ = false ∧ w.frozen? ⟨g, 1, none⟩ = false ∧ w.frozen? ⟨g, 2, none⟩ = false ∧ w.frozen? ⟨g, 3, none⟩ = false :=
  ⟨⟨h.cell 0, h.cell 1, h.cell 2, h.cell 3⟩, h.frozen 0, h.frozen 1, h.frozen 2, h.frozen 3⟩
set_option maxHeartbeats 16000000 in
set_option maxRecDepth 100000 in
theorem check_run (A N Q : Option Addr) (c d q : Nat) (n : NetD) (ps : List (Int × Int)) (cap : Int) (W : World) (hok : n.ok) (hR : NetR W A N n) (hd : n.nodes.length ≤ d) (hsm : n.nodes.length ≤ 200) (hcap : -9223372036854775808 ≤ cap ∧ cap ≤ 9223372036854775807) (hps : ps.length ≤ 1048576) (hQ : Pairs W Q ps) :
    Calls Tryz.prog 13 #[.agg #[.slice A n.inn.length c, .slice N n.nodes.length d], .slice Q ps.length q, .int .i64 cap] W (RunP n ps cap W) := by
  have hl0 : Later W ((W.alloc (.cells #[.slice A n.inn.length c, .slice N n.nodes.length d] 26)).alloc (.cells #[.int .i64 0, .int .i64 0, .int .i64 0, .int .i64 0] 47)) := ((Later.refl W).alloc _).alloc _
  have hb0 := Blk.new (W.alloc (.cells #[.slice A n.inn.length c, .slice N n.nodes.length d] 26)) 47 #[.int .i64 0, .int .i64 0, .int .i64 0, .int .i64 0]
  rw [World.size_alloc] at hb0
  obtain ⟨rn, hrn⟩ : ∃ r, Ck.run n ps cap = r := ⟨_, rfl⟩
  have HR := Lib.hid hR
  have Hok := Lib.hid hok
  have Hl0 := Lib.hid hl0
  have Hb0 := Lib.hid hb0
  have HQ := Lib.hid hQ
  clear hR hok hl0 hb0 hQ
  go_enter Tryz.func13, Tryz.ntmps13
  go_wp2_with fail
  generalize (W.alloc (.cells #[.slice A n.inn.length c, .slice N n.nodes.length d] 26)).alloc (.cells #[.int .i64 0, .int .i64 0, .int .i64 0, .int .i64 0] 47) = W1 at *
  refine (check_new A N c d n cap W1 Hok.out (HR.out.below Hl0.out (Nat.le_refl _)) hd hsm hcap).mono ?_
  rintro e W2 ⟨hcase, h12⟩
  have hl2 := Hl0.out.trans h12
  have hb2 := h12.blk Hb0.out
  rcases hcase with ⟨hch, rfl⟩ | ⟨hch, a, W0, hS, h10, rfl, hM⟩
  · have HE := Lib.hid (show Ck.run n ps cap = ((0, 0, 0, 0), Nt.check n) by unfold Ck.run; rw [if_pos hch])
    have hne : (Nt.check n != 0) = true := by simp [hch]
    obtain ⟨⟨x0, x1, x2, x3⟩, f0, f1, f2, f3⟩ := four_cells hb2
    clear hch hrn
    generalize Nt.check n = er at *
    go_wp2_with fail
    refine bodyPost_ret (v := .tuple #[.agg #[.int .i64 0, .int .i64 0, .int .i64 0, .int .i64 0], .int .i64 er]) (by simp [results, Tryz.results13, go_sem, x0, x1, x2, x3]) rfl ?_
    exact ⟨by rw [HE.out]; rfl, box4 hl2 (by omega) _ _ _ _⟩
  · have hb00 := h10.blk Hb0.out
    have hl00 := Hl0.out.trans h10
    have hQ2 := HQ.out.below hl2 (Nat.le_refl _)
    have hm := Nt.words_len hch
    have HRN := Lib.hid (show Ck.run n ps cap = _ by unfold Ck.run; rw [if_neg (by simp [hch])])
    have Hb00 := Lib.hid hb00
    have Hl00 := Lib.hid hl00
    have HS := Lib.hid hS
    have HM := Lib.hid hM
    have HQ2 := Lib.hid hQ2
    have Hch := Lib.hid hch
    clear hb00 hl00 hS hM hQ2 hch
    clear h12 hl2 hb2 Hb0 Hl0 h10
    go_wp2_with fail
    refine (code_check Q q ps W2 (by omega) HQ2.out).mono ?_
    rintro e W3 ⟨rfl, h3⟩
    have hM3 := HM.out.to_later h3
    have hb3 := hM3.later.blk Hb00.out
    have hl3 := Hl00.out.trans hM3.later
    by_cases hck : Cd.check ps = 0
    rotate_left
    · have HE := Lib.hid (show Ck.run n ps cap = ((0, 0, 0, 0), Cd.check ps) by rw [HRN.out, if_pos hck])
      have hne : (Cd.check ps != 0) = true := by simp [hck]
      obtain ⟨⟨x0, x1, x2, x3⟩, f0, f1, f2, f3⟩ := four_cells hb3
      clear hck hrn HRN
      generalize Cd.check ps = er at *
      go_wp2_with fail
      refine bodyPost_ret (v := .tuple #[.agg #[.int .i64 0, .int .i64 0, .int .i64 0, .int .i64 0], .int .i64 er]) (by simp [results, Tryz.results13, go_sem, x0, x1, x2, x3]) rfl ?_
      exact ⟨by rw [HE.out]; rfl, box4 hl3 (by omega) _ _ _ _⟩
    have HRN2 := Lib.hid (HRN.out.trans (if_neg (by simp [hck])))
    have HBd0 := Lib.hid (show Ck.Bd (Ck.start (n.nodes.length + 1)) 0 from ⟨Nat.le_refl _, by simp [Ck.start], by simp [Ck.start], by simp [Ck.start], by simp [Ck.start]⟩)
    rw [hck]
    have HM3 := Lib.hid hM3
    clear hM3
    clear HRN hck hrn h3 hb3 hl3 HM HQ2
    go_wp2_with fail
    go_loopw [12, 13, 34] (fun _ _ i wr => ∃ (k : Nat) (s : CkS), k ≤ ps.length ∧ i = .int .i64 (k : Int) ∧ Ck.go (Ck.base n cap) (Ck.start (n.nodes.length + 1)) (ps.take k) = (s, 0) ∧ CkM a (Ck.base n cap) W0 s wr ∧ Ck.Bd s k) (fun _ _ i _ => ps.length - (intOf i).toNat)
    case atStart => exact ⟨0, _, Nat.zero_le _, rfl, rfl, HM3.out, HBd0.out⟩
    case round =>
      clear HM3 HBd0
      obtain ⟨k, s, hk, rfl, hgo, hMk, hBd⟩ := hrel
      have hlk := Hl00.out.trans hMk.later
      by_cases hlt : k < ps.length
      · obtain ⟨b3, o3, rfl, -, c0, c1⟩ := HQ.out.below hlk (Nat.le_refl _) k hlt
        have HT := Lib.hid (List.take_succ_eq_append_getElem hlt)
        have HDr := Lib.hid (List.take_append_drop (k + 1) ps)
        generalize ps[k] = pk at *
        obtain ⟨kd, id⟩ := pk
        simp only at c0 c1
        have hb7 : Later wr (wr.alloc (.cells #[.int .i64 kd, .int .i64 id] 44)) := (Later.refl wr).alloc _
        have hM7 := hMk.to_later hb7
        have hbx := Blk.new wr 44 #[.int .i64 kd, .int .i64 id]
        have hB := hBd
        obtain ⟨hB1, hB2, hB3, hB4, hB5⟩ := hBd
        have hkb : (k : Int) * 68719542272 ≤ 1048576 * 68719542272 := by omega
        have hdo := check_do a _ W0 s _ HS.out hM7 kd id (by omega) (by omega) (by omega)
        have hlz := Hl00.out.trans hM7.later
        have hl07 := hM7.later
        have Hdo := Lib.hid hdo
        have Hl07 := Lib.hid hl07
        clear hdo hl07
        clear hb7 hM7 hbx hMk hlk
        go_wp2_with fail
        generalize wr.alloc (.cells #[.int .i64 kd, .int .i64 id] 44) = w7 at *
        refine Hdo.out.mono ?_
        rintro e w8 ⟨rfl, hF⟩
        have hl08 := hF.to_later HS.out Hl07.out
        have hl8 := Hl00.out.trans hl08
        have hB8 := Ck.bd_do HS.out hB kd id
        have hsn := Ck.go_snoc (Ck.base n cap) (Ck.start (n.nodes.length + 1)) (ps.take k) (kd, id) (by rw [hgo])
        rw [hgo] at hsn
        simp only at hsn
        rw [← HT.out] at hsn
        by_cases hz : (Ck.do_ (Ck.base n cap) s kd id).2 = 0
        · have hse : Ck.do_ (Ck.base n cap) s kd id = ((Ck.do_ (Ck.base n cap) s kd id).1, 0) := by rw [← hz]
          rw [hse] at hsn
          rw [hz]
          have hM8 := hF.mem
          generalize (Ck.do_ (Ck.base n cap) s kd id).1 = s8 at *
          have HM8 := Lib.hid hM8
          have Hsn := Lib.hid hsn
          have HB8 := Lib.hid hB8
          clear hM8 hsn hB8
          clear hF hl08 hl8 hz hse hgo hB hB1 hB2 hB3 hB4 hB5 c0 c1 hlz
          go_wp2_with fail
          go_roundw
          case rel => exact ⟨k + 1, s8, by omega, by go_num, Hsn.out, HM8.out, HB8.out⟩
          case measure => simp [intOf]; omega
        · have hfl := Ck.go_fail (Ck.base n cap) (Ck.start (n.nodes.length + 1)) (ps.take (k + 1)) (ps.drop (k + 1)) (by rw [hsn]; exact hz)
          rw [HDr.out, hsn] at hfl
          have HE := Lib.hid (show Ck.run n ps cap = ((0, 0, 0, 0), (Ck.do_ (Ck.base n cap) s kd id).2) by rw [HRN2.out, hfl, if_pos hz])
          have hne : ((Ck.do_ (Ck.base n cap) s kd id).2 != 0) = true := by simp [hz]
          have hb8 := hl08.blk Hb00.out
          obtain ⟨⟨x0, x1, x2, x3⟩, f0, f1, f2, f3⟩ := four_cells hb8
          generalize (Ck.do_ (Ck.base n cap) s kd id).2 = er at *
          clear hF hl08 hz hgo hB hB1 hB2 hB3 hB4 hB5 c0 c1 hlz hfl hsn hb8 HRN2 hB8
          go_wp2_with fail
          refine bodyPost_ret (v := .tuple #[.agg #[.int .i64 0, .int .i64 0, .int .i64 0, .int .i64 0], .int .i64 er]) (by simp [results, Tryz.results13, go_sem, x0, x1, x2, x3]) rfl ?_
          exact ⟨by rw [HE.out]; rfl, box4 hl8 (by omega) _ _ _ _⟩
      · obtain rfl : k = ps.length := by omega
        rw [List.take_length] at hgo
        have HRN3 := Lib.hid (show Ck.run n ps cap = if Ck.whole (Ck.base n cap) s = false then ((0, 0, 0, 0), 28) else if (Cd.costs ps (Nt.costs n)).2 ≠ 0 then ((0, 0, 0, 0), (Cd.costs ps (Nt.costs n)).2) else ((s.peak, (Cd.costs ps (Nt.costs n)).1, Cd.count 2 ps, max s.peak (Safe.max ((Nt.words n).drop 1))), 0) by
          rw [HRN2.out, hgo]; simp)
        have hwh := check_whole a _ W0 s wr hMk (by have := hBd.done; omega)
        have Hwh := Lib.hid hwh
        have HMk := Lib.hid hMk
        clear hwh hMk
        clear HRN2 hgo hlt hlk
        go_wp2_with fail
        refine Hwh.out.mono ?_
        rintro e w8 ⟨rfl, hl8⟩
        have hM8 := HMk.out.to_later hl8
        have hlw8 := Hl00.out.trans hM8.later
        have hb8 := hM8.later.blk Hb00.out
        cases hw : Ck.whole (Ck.base n cap) s
        · have HE := Lib.hid (show Ck.run n ps cap = ((0, 0, 0, 0), 28) by rw [HRN3.out, if_pos hw])
          obtain ⟨⟨x0, x1, x2, x3⟩, f0, f1, f2, f3⟩ := four_cells hb8
          clear hw HRN3 hM8 hb8 hl8 HMk Hwh
          go_wp2_with fail
          refine bodyPost_ret (v := .tuple #[.agg #[.int .i64 0, .int .i64 0, .int .i64 0, .int .i64 0], .int .i64 28]) (by simp [results, Tryz.results13, go_sem, x0, x1, x2, x3]) rfl ?_
          exact ⟨by rw [HE.out]; rfl, box4 hlw8 (by omega) _ _ _ _⟩
        have HRN4 := Lib.hid (HRN3.out.trans (if_neg (by simp [hw])))
        obtain ⟨-, y1, -⟩ := hM8.cells14
        have hQ8 := HQ.out.below hlw8 (Nat.le_refl _)
        have hC8 := HS.out.cost.below hM8.later (Nat.le_refl _)
        have hcl : (Nt.costs n).length = n.nodes.length + 1 := by rw [Nt.costs, List.length_cons, Nt.costsTo_len]
        have HM8 := Lib.hid hM8
        have HQ8 := Lib.hid hQ8
        have HC8 := Lib.hid hC8
        clear hM8 hQ8 hC8
        clear hw HRN3 hb8 hl8 HMk Hwh hlw8
        go_wp2_with fail
        refine (code_cost Q q ps a.Co a.cC (Nt.costs n) w8 (by omega) HQ8.out (by omega) HC8.out).mono ?_
        rintro e w9 ⟨rfl, h9⟩
        have hl9 : Later w8 w9 := h9
        have hM9 := HM8.out.to_later hl9
        have hlw9 := Hl00.out.trans hM9.later
        have hb9 := hM9.later.blk Hb00.out
        by_cases hce : (Cd.costs ps (Nt.costs n)).2 = 0
        rotate_left
        · have HE := Lib.hid (show Ck.run n ps cap = ((0, 0, 0, 0), (Cd.costs ps (Nt.costs n)).2) by rw [HRN4.out, if_pos hce])
          have hne : ((Cd.costs ps (Nt.costs n)).2 != 0) = true := by simp [hce]
          obtain ⟨⟨x0, x1, x2, x3⟩, f0, f1, f2, f3⟩ := four_cells hb9
          generalize (Cd.costs ps (Nt.costs n)).2 = er at *
          clear hce HRN4 hM9 hb9 hl9 HM8 h9 y1
          go_wp2_with fail
          refine bodyPost_ret (v := .tuple #[.agg #[.int .i64 0, .int .i64 0, .int .i64 0, .int .i64 0], .int .i64 er]) (by simp [results, Tryz.results13, go_sem, x0, x1, x2, x3]) rfl ?_
          exact ⟨by rw [HE.out]; rfl, box4 hlw9 (by omega) _ _ _ _⟩
        have HE := Lib.hid (HRN4.out.trans (if_neg (by simp [hce])))
        rw [hce]
        have hn1 := (Nt.check_ok Hch.out).1
        obtain ⟨bw, ow, hWd, -⟩ := HS.out.word (k := 0) (by show 0 < (Nt.words n).length; omega)
        have hcw := HS.out.hcw
        change (Nt.words n).length ≤ a.cW at hcw
        obtain ⟨y0, -, -, -, -, -, -, -, -, -, -, -, -, y13⟩ := hM9.cells14
        change w9.cell? ⟨a.p, 0, none⟩ = some (.slice a.Wd (Nt.words n).length a.cW) at y0
        have hIw : Ints .i64 w9 (some ⟨bw, ow, none⟩) (Nt.words n) := by rw [← hWd]; exact HS.out.words.below hM9.later (Nat.le_refl _)
        rw [hWd] at y0
        rw [hm] at y0 hcw
        have hId := Ints.tail_ hIw 1
        have hdl : ((Nt.words n).drop 1).length = n.nodes.length := by rw [List.length_drop, hm]; omega
        have hmx : ∀ qn, Calls Tryz.prog 47 #[.slice (some ⟨bw, ow + 1, none⟩) n.nodes.length (a.cW - 1)] (w9.drewN qn) fun e w' => e = .returned (.int .i64 (Safe.max ((Nt.words n).drop 1))) ∧ w9.drewN qn = w' := fun qn => by
          have := safe_max (some ⟨bw, ow + 1, none⟩) (a.cW - 1) ((Nt.words n).drop 1) (w9.drewN qn) (by omega) (hId.drewN qn)
          rwa [hdl] at this
        have k1 : a.cW ≠ 1 := by omega
        have k2 : (1 : Int) ≤ ((n.nodes.length + 1 : Nat) : Int) := by omega
        have k3 : ((n.nodes.length + 1 : Nat) : Int) ≤ a.cW := by omega
        have k4 : 1 ≤ a.cW := by omega
        have k5 : n.nodes.length + 1 ≤ a.cW := by omega
        generalize Safe.max ((Nt.words n).drop 1) = mx at *
        have HM9 := Lib.hid hM9
        have Hmx := Lib.hid hmx
        have Hlw9 := Lib.hid hlw9
        have Hb9 := Lib.hid hb9
        clear hM9 hmx hlw9 hb9
        clear hce HRN4 hl9 HM8 h9 y1 hIw hId hdl hWd
        go_upto_region 19 with fail
        go_quiet ((go_at_call 47; exact quiet_same (Hmx.out _)))
        have HMq := Lib.hid (HM9.out.to_later (Later.drewN (Later.refl w9) nq))
        go_upto_region 20 with fail
        generalize w9.drewN nq = w10 at *
        have hld : Later w10 w10.drew := (Later.refl _).drew
        have hMd := HMq.out.to_later hld
        have hlwd := Hl00.out.trans hMd.later
        have hbd := hMd.later.blk Hb00.out
        obtain ⟨-, -, -, -, -, -, -, -, -, -, -, -, -, y13'⟩ := hMd.cells14
        have hct : ∀ V, Later w10.drew V → Calls Tryz.prog 48 #[.slice Q ps.length q, .int .i64 2] V fun e w' => e = .returned (.int .i64 (Cd.count 2 ps)) ∧ Below V.heap.size V w' := fun V hV => code_count Q q ps 2 V (by omega) (HQ.out.below (hlwd.trans hV) (Nat.le_refl _))
        have Hct := Lib.hid hct
        have Hbd := Lib.hid hbd
        have Hlwd := Lib.hid hlwd
        have HMd := Lib.hid hMd
        clear hct hbd hlwd hMd
        clear y0 y13 Hmx HM9 Hb9 Hlw9
        go_region_law ((first
          | (go_simp; go_at_call 48; refine (Hct.out _ (Later.refl _)).mono ?_; rintro e w11 ⟨rfl, h11⟩; have hl11 := Hlwd.out.trans (show Later w10.drew w11 from h11); have y13'' := (show Later w10.drew w11 from h11).cell y13'; have hb11 := (show Later w10.drew w11 from h11).blk Hbd.out; obtain ⟨⟨x0, x1, x2, x3⟩, f0, f1, f2, f3⟩ := four_cells hb11)
          | fail))
        all_goals
          have hbw := box4 hl11 (Nat.le_succ W.heap.size) (.int .i64 s.peak) (.int .i64 (Cd.costs ps (Nt.costs n)).1) (.int .i64 (Cd.count 2 ps)) (.int .i64 (max s.peak mx))
          have Hbw := Lib.hid hbw
          clear hbw
          go_wp2_with fail
          refine bodyPost_ret (v := .tuple #[.agg #[.int .i64 s.peak, .int .i64 (Cd.costs ps (Nt.costs n)).1, .int .i64 (Cd.count 2 ps), .int .i64 (max s.peak mx)], .int .i64 0]) (by simp [results, Tryz.results13, go_sem, x0, x1, x2, x3]) rfl ?_
          exact ⟨by rw [HE.out]; rfl, Hbw.out⟩
end Go.Proofs.YtnffjfjhbjeaiaaGreatDoor
/- The plain law of layer 21's whole: instruction by instruction, what is lowered goes. -/
namespace Go.Proofs.YtnffjfjhbjeaiaaGreatDoor
namespace Rw
open Rt
/-- What a plan stands on is in bounds. -/
structure Net (c : CkN) (L : Nat) : Prop where
  len : c.words.length = L
  wds : ∀ z, 0 ≤ Ck.wd c z ∧ Ck.wd c z ≤ 65536
  top : L ≤ 513
  rng : ∀ id : Int, 1 ≤ id → id < L → ∀ i ∈ Ck.insF c id, 0 ≤ i ∧ i < L
/-- The code so far goes, within every cap of so many words for each instruction. -/
structure Inv (c : CkN) (L : Nat) (s : RtS) (t : CkS) : Prop where
  len : s.pres.length = L
  pres : t.pres = s.pres
  sav : t.sav.length = L
  grad : t.grad.length = L
  zero : Ck.at_ s.pres 0 = true
  now : t.now ≤ 65536 * L * s.code.length
  peak : t.peak ≤ 65536 * L * s.code.length
  go : ∀ cap : Int, 65536 * L * s.code.length ≤ cap → Ck.go (Ck.cp c cap) (Ck.start L) s.code = (t, 0)
  right : s.code.all Cd.right = true
  ids : ∀ p ∈ s.code, 0 ≤ p.2 ∧ p.2 < L
theorem act_now {c : CkN} (h : ∀ z, 0 ≤ Ck.wd c z) (s : CkS) (k id n : Int) : (Ck.act c s k id n).now ≤ n := by
  have := h id
  unfold Ck.act
  (repeat' split) <;> simp <;> omega
section
variable {c : CkN} {L : Nat} {s : RtS} {t : CkS}
theorem more_le (hN : Net c L) (hL : 1 ≤ L) (hg : t.grad.length = L) {k id : Int} (h0 : 0 ≤ id) (h1 : id < L) (h6 : k = 6 → 1 ≤ id) : 0 ≤ Ck.more c t k id ∧ Ck.more c t k id ≤ 65536 * L := by
  have e1 := hN.wds id
  have e2 := hN.wds c.loss
  unfold Ck.more
  split
  · omega
  · split
    · omega
    · split
      · rename_i h
        have hr := hN.rng id (h6 h) h1
        have hl : LRel L t.grad ((List.range L).map (fun i : Nat => (i : Int)) |>.filter fun z => Ck.at_ t.grad z) := by
          refine ⟨hg, fun z hz => ?_, ?_, fun z z0 z1 => ?_⟩
          · obtain ⟨i, hi, rfl⟩ := List.mem_map.1 (List.mem_filter.1 hz).1
            rw [List.mem_range] at hi; omega
          · refine List.Pairwise.filter _ (List.pairwise_map.2 ?_)
            exact (List.nodup_range (n := L)).imp (by intro a b h e; omega)
          · rw [List.mem_filter]
            refine ⟨fun q => ⟨List.mem_map.2 ⟨z.toNat, by rw [List.mem_range]; omega, by omega⟩, q⟩, fun q => q.2⟩
        obtain ⟨f1, f2⟩ := Rf.fresh_facts hl (Ck.insF c id) [] hr List.nodup_nil (by simp)
        have f3 := Rf.nodup_len L _ f1 fun z hz => (f2 z hz).1
        have f4 : ∀ l : List Int, 0 ≤ Ck.sumW c l ∧ Ck.sumW c l ≤ 65536 * l.length := by
          intro l
          induction l with
          | nil => simp [Ck.sumW]
          | cons a r ih => have := hN.wds a; simp [Ck.sumW] at ih ⊢; omega
        have := f4 (Ck.fresh c t id)
        unfold Ck.fresh at this ⊢
        omega
      · omega
/-- One instruction more. -/
theorem Inv.step (h : Inv c L s t) (hN : Net c L) (hL : 1 ≤ L) {k id : Int} {s' : RtS} (hr : Cd.right (k, id) = true) (h0 : 0 ≤ id) (h1 : id < L) (h6 : k = 6 → 1 ≤ id) (hlg : Ck.legal c t k id = true)
    (hc : s'.code = s.code ++ [(k, id)]) (hp : ∀ n, (Ck.act c t k id n).pres = s'.pres) (hz : Ck.at_ s'.pres 0 = true) (hl1 : s'.pres.length = L) (hl2 : ∀ n, (Ck.act c t k id n).sav.length = L) (hl3 : ∀ n, (Ck.act c t k id n).grad.length = L) :
    ∃ n, Inv c L s' (Ck.act c t k id n) := by
  obtain ⟨m0, m1⟩ := more_le hN hL h.grad h0 h1 h6
  have hn := h.now
  have hpk := h.peak
  have el : (65536 * L * s'.code.length : Int) = 65536 * L * s.code.length + 65536 * L := by
    rw [hc, List.length_append]
    simp only [List.length_cons, List.length_nil, Nat.zero_add, Int.natCast_add, Int.natCast_one, Int.mul_add, Int.mul_one]
  have ha := act_now (c := c) (fun z => (hN.wds z).1) t k id (t.now + Ck.more c t k id)
  refine ⟨t.now + Ck.more c t k id, ⟨hl1, hp _, hl2 _, hl3 _, hz, ?_, ?_, fun cap hcap => ?_, ?_, fun p hp => ?_⟩⟩
  · omega
  · rw [Ck.peak_act]; omega
  · rw [hc, Ck.go_snoc _ _ _ _ (by rw [h.go cap (by omega)]), h.go cap (by omega), Ck.do_cp]
    rw [if_neg (by rw [hr, hN.len]; simp; exact h1), if_neg (by simp [hlg]), if_neg (by simp only; omega)]
  · rw [hc, List.all_append, h.right]; simp [hr]
  · rw [hc] at hp
    rcases List.mem_append.1 hp with hp | hp
    · exact h.ids p hp
    · simp at hp; subst hp; exact ⟨h0, h1⟩
theorem right_node {k id : Int} (hk : k = 1 ∨ k = 2 ∨ k = 3 ∨ k = 6) (h1 : 1 ≤ id) (h2 : id ≤ 512) : Cd.right (k, id) = true := by
  rw [Cd.right_1236 hk]; simp; omega
theorem len_set {l : List Bool} (h : l.length = L) (z : Int) (b : Bool) : (Ck.setB l z b).length = L := by rw [Ck.setB, List.length_set]; exact h
theorem zero_set {l : List Bool} (h : l.length = L) (hz : Ck.at_ l 0 = true) {z : Int} (h1 : 1 ≤ z) (h2 : z < L) (b : Bool) : Ck.at_ (Ck.setB l z b) 0 = true := by
  rw [LRel.set_at h (by omega) h2 (Int.le_refl 0), if_neg (by omega)]; exact hz
theorem Inv.comp (h : Inv c L s t) (hN : Net c L) {k id : Int} (hk : k = 1 ∨ k = 2) (h1 : 1 ≤ id) (h2 : id < L) (hlg : Ck.legal c t k id = true) :
    ∃ t', Inv c L (Rt.comp k id s) t' ∧ t'.sav = Ck.setB t.sav id true ∧ t'.grad = t.grad ∧ t'.em = t.em ∧ t'.done = t.done ∧ t'.sd = t.sd := by
  have ht := hN.top
  have e : ∀ n, Ck.act c t k id n = { t with pres := Ck.setB t.pres id true, sav := Ck.setB t.sav id true, now := n, peak := max t.peak n } := fun n => by unfold Ck.act; rw [if_pos hk]
  obtain ⟨n, hn⟩ := h.step hN (by omega) (s' := Rt.comp k id s) (right_node (by omega) h1 (by omega)) (by omega) h2 (fun _ => h1) hlg rfl (fun n => by rw [e, h.pres]; rfl) (zero_set h.len h.zero h1 h2 _) (len_set h.len _ _) (fun n => by rw [e]; exact len_set h.sav _ _) (fun n => by rw [e]; exact h.grad)
  rw [e] at hn
  exact ⟨_, hn, rfl, rfl, rfl, rfl, rfl⟩
theorem Inv.drop (h : Inv c L s t) (hN : Net c L) {id : Int} (h1 : 1 ≤ id) (h2 : id < L) (hp : Ck.at_ s.pres id = true) :
    ∃ t', Inv c L (Rt.drop id s) t' ∧ t'.sav = t.sav ∧ t'.grad = t.grad ∧ t'.em = t.em ∧ t'.done = t.done ∧ t'.sd = t.sd := by
  have ht := hN.top
  have e : ∀ n, Ck.act c t 3 id n = { t with pres := Ck.setB t.pres id false, now := n - Ck.wd c id, peak := max t.peak n } := fun n => rfl
  obtain ⟨n, hn⟩ := h.step hN (by omega) (s' := Rt.drop id s) (k := 3) (right_node (by omega) h1 (by omega)) (by omega) h2 (fun _ => h1) (by unfold Ck.legal; simp; rw [h.pres]; exact hp) rfl (fun n => by rw [e, h.pres]; rfl) (zero_set h.len h.zero h1 h2 _) (len_set h.len _ _) (fun n => by rw [e]; exact h.sav) (fun n => by rw [e]; exact h.grad)
  rw [e] at hn
  exact ⟨_, hn, rfl, rfl, rfl, rfl, rfl⟩
theorem Inv.emit (h : Inv c L s t) (hN : Net c L) (hL : 1 ≤ L) (hp : Ck.at_ s.pres c.loss = true) (he : t.em = false) :
    ∃ t', Inv c L (Rt.add 4 0 s) t' ∧ t'.sav = t.sav ∧ t'.grad = t.grad ∧ t'.em = true ∧ t'.done = t.done ∧ t'.sd = t.sd := by
  have e : ∀ n, Ck.act c t 4 0 n = { t with em := true, now := n, peak := max t.peak n } := fun n => rfl
  obtain ⟨n, hn⟩ := h.step hN hL (s' := Rt.add 4 0 s) (k := 4) (id := 0) rfl (by omega) (by omega) (fun q => by omega) (by unfold Ck.legal; simp; rw [h.pres]; exact ⟨hp, he⟩) rfl (fun n => by rw [e, h.pres]; rfl) h.zero h.len (fun n => by rw [e]; exact h.sav) (fun n => by rw [e]; exact h.grad)
  rw [e] at hn
  exact ⟨_, hn, rfl, rfl, rfl, rfl, rfl⟩
theorem Inv.seed (h : Inv c L s t) (hN : Net c L) (hL : 1 ≤ L) (he : t.sd = false) :
    ∃ t', Inv c L (Rt.add 5 0 s) t' ∧ t'.sav = t.sav ∧ t'.grad = Ck.setB t.grad c.loss true ∧ t'.em = t.em ∧ t'.done = t.done := by
  have e : ∀ n, Ck.act c t 5 0 n = { t with sd := true, grad := Ck.setB t.grad c.loss true, now := n, peak := max t.peak n } := fun n => rfl
  obtain ⟨n, hn⟩ := h.step hN hL (s' := Rt.add 5 0 s) (k := 5) (id := 0) rfl (by omega) (by omega) (fun q => by omega) (by unfold Ck.legal; simp; exact he) rfl (fun n => by rw [e, h.pres]; rfl) h.zero h.len (fun n => by rw [e]; exact h.sav) (fun n => by rw [e]; exact len_set h.grad _ _)
  rw [e] at hn
  exact ⟨_, hn, rfl, rfl, rfl, rfl⟩
theorem len_sets : ∀ (f l : List Bool) (g : List Int), l.length = L → (Ck.sets l g).length = L
  | _, l, [], h => h
  | f, l, z :: r, h => len_sets f _ r (len_set h z true)
theorem Inv.back (h : Inv c L s t) (hN : Net c L) {id : Int} (h1 : 1 ≤ id) (h2 : id < L) (hlg : Ck.legal c t 6 id = true) :
    ∃ t', Inv c L (Rt.add 6 id s) t' ∧ t'.sav = t.sav ∧ t'.grad = Ck.setB (Ck.sets t.grad (Ck.fresh c t id)) id false ∧ t'.em = t.em ∧ t'.done = t.done + 1 := by
  have ht := hN.top
  have e : ∀ n, Ck.act c t 6 id n = { t with grad := Ck.setB (Ck.sets t.grad (Ck.fresh c t id)) id false, now := n - Ck.wd c id, peak := max t.peak n, done := t.done + 1 } := fun n => rfl
  obtain ⟨n, hn⟩ := h.step hN (by omega) (s' := Rt.add 6 id s) (k := 6) (right_node (by omega) h1 (by omega)) (by omega) h2 (fun _ => h1) hlg rfl (fun n => by rw [e, h.pres]; rfl) h.zero h.len (fun n => by rw [e]; exact h.sav) (fun n => by rw [e]; exact len_set (len_sets [] _ _ h.grad) _ _)
  rw [e] at hn
  exact ⟨_, hn, rfl, rfl, rfl, rfl⟩
/-- A sweep. -/
theorem Inv.sweep (hN : Net c L) (f : Int → Bool) (h : Inv c L s t) : ∀ m : Nat, m < L → ∃ t', Inv c L (Rt.sweep f m s) t' ∧ t'.sav = t.sav ∧ t'.grad = t.grad ∧ t'.em = t.em ∧ t'.done = t.done ∧ t'.sd = t.sd
  | 0, _ => ⟨t, h, rfl, rfl, rfl, rfl, rfl⟩
  | m + 1, hm => by
    obtain ⟨t1, i1, a1, a2, a3, a4, a5⟩ := Inv.sweep hN f h m (by omega)
    rw [sweep_step]
    split
    · rename_i hc
      simp at hc
      obtain ⟨t2, i2, b1, b2, b3, b4, b5⟩ := i1.drop hN (id := (m : Int) + 1) (by omega) (by omega) hc.1
      exact ⟨t2, i2, by rw [b1, a1], by rw [b2, a2], by rw [b3, a3], by rw [b4, a4], by rw [b5, a5]⟩
    · exact ⟨t1, i1, a1, a2, a3, a4, a5⟩
theorem sweep_keep {f : Int → Bool} (hl : s.pres.length = L) {z : Int} (h0 : 0 ≤ z) (hf : f z = false) (hp : Ck.at_ s.pres z = true) : ∀ m : Nat, m < L → Ck.at_ (Rt.sweep f m s).pres z = true
  | 0, _ => hp
  | m + 1, hm => by
    have ih := sweep_keep hl h0 hf hp m (by omega)
    rw [sweep_step]
    split
    · rename_i hc
      show Ck.at_ (Ck.setB _ _ false) z = true
      rw [LRel.set_at (L := L) (by rw [sweep_pres]; exact hl) (by omega) (by omega) h0]
      split
      · rename_i e; subst e; rw [hf] at hc; simp at hc
      · exact ih
    · exact ih
end
end Rw
end Go.Proofs.YtnffjfjhbjeaiaaGreatDoor
/- The plain law of layer 21's whole: forward, fetched, and back. -/
namespace Go.Proofs.YtnffjfjhbjeaiaaGreatDoor
namespace Rw
open Rt
/-- What the order keeps. -/
structure Ord (c : CkN) (L : Nat) (I : Int → List Int) (r : Int → Nat) (order : List Int) : Prop where
  ins : ∀ id, Ck.insF c id = I id ∨ ¬ (1 ≤ id ∧ id < L)
  ord : c.order = order
  rng : ∀ u ∈ order, 1 ≤ u ∧ u < L
  all : ∀ u : Int, 1 ≤ u → u < L → u ∈ order
  nod : order.Nodup
  ok : Ok I r L
  behind : ∀ k, k < order.length → ∀ i ∈ I (order.getD k 0), i = 0 ∨ i ∈ order.take k
  loss : 1 ≤ c.loss ∧ c.loss < L
  user : ∀ k, k < order.length → order.getD k 0 = c.loss ∨ pend I (order.getD k 0) (order.drop (k + 1)) = true
theorem freshGo_memR (g : List Bool) : ∀ (r acc : List Int) (z : Int), z ∈ Ck.freshGo g acc r → z ∈ acc ∨ z ∈ r
  | [], _, _, h => .inl h
  | i :: r, acc, z, h => by
    unfold Ck.freshGo at h
    split at h
    · rcases freshGo_memR g r _ z h with q | q
      · rcases List.mem_append.1 q with q | q
        · exact .inl q
        · simp at q; subst q; exact .inr (by simp)
      · exact .inr (by simp [q])
    · rcases freshGo_memR g r _ z h with q | q
      · exact .inl q
      · exact .inr (by simp [q])
section
variable {c : CkN} {L : Nat} {I : Int → List Int} {r : Int → Nat} {order : List Int}
theorem at_node (h : Ord c L I r order) {k : Nat} (hk : k < order.length) : 1 ≤ order.getD k 0 ∧ order.getD k 0 < L ∧ order.getD k 0 = order[k] := by
  have e := Rt.get_at hk
  have := h.rng _ (List.getElem_mem hk)
  rw [e]; exact ⟨this.1, this.2, rfl⟩
theorem pend_mem {z : Int} {l : List Int} : pend I z l = true ↔ ∃ u ∈ l, z ∈ I u := by
  unfold pend; rw [List.any_eq_true]; simp
/-- All nodes forward. -/
theorem fwd_inv (hN : Net c L) (hO : Ord c L I r order) {f : Nat → Int → Bool} {N : Nat} (hNL : N < L) {s : RtS} {t : CkS} (h : Inv c L s t) (hs : t.sav = List.replicate L false)
    (hf : ∀ k z, f k z = true → z ≠ c.loss ∧ pend I z (order.drop (k + 1)) = false) :
    ∀ k, k ≤ order.length → ∃ t', Inv c L (Rt.fwd order N f k s) t' ∧ t'.grad = t.grad ∧ t'.em = t.em ∧ t'.done = t.done ∧ t'.sd = t.sd ∧ (∀ z : Int, 0 ≤ z → z < L → (Ck.at_ t'.sav z = true ↔ z ∈ order.take k)) ∧
      ∀ z ∈ order.take k, (z = c.loss ∨ pend I z (order.drop k) = true) → Ck.at_ (Rt.fwd order N f k s).pres z = true
  | 0, _ => ⟨t, h, rfl, rfl, rfl, rfl, fun z z0 z1 => by
      rw [hs]
      unfold Ck.at_
      rw [List.getD_eq_getElem?_getD, List.getElem?_replicate]
      split <;> simp, fun z hz => by simp at hz⟩
  | k + 1, hk => by
    obtain ⟨t1, i1, a1, a2, a3, a4, a5, a6⟩ := fwd_inv hN hO hNL h hs hf k (by omega)
    have hkl : k < order.length := by omega
    obtain ⟨u1, u2, ue⟩ := at_node hO hkl
    have ht := List.take_succ_eq_append_getElem hkl
    have hd := List.drop_eq_getElem_cons hkl
    have hbe := hO.behind k hkl
    have hI : Ck.insF c (order.getD k 0) = I (order.getD k 0) := (hO.ins _).resolve_right (fun q => q ⟨u1, u2⟩)
    have hnt : order[k] ∉ order.take k := fun q => by
      have hn2 := hO.nod.sublist (List.take_sublist (k + 1) order)
      rw [ht, List.nodup_append] at hn2
      exact hn2.2.2 _ q _ (by simp) rfl
    rw [show Rt.fwd order N f (k + 1) s = Rt.sweep (f k) N (Rt.comp 1 (order.getD k 0) (Rt.fwd order N f k s)) from rfl]
    obtain ⟨u, hu⟩ : ∃ u, order.getD k 0 = u := ⟨_, rfl⟩
    rw [hu] at hbe hI u1 u2 ue ⊢
    subst ue
    generalize Rt.fwd order N f k s = s1 at *
    obtain ⟨t2, i2, b1, b2, b3, b4, b5⟩ := i1.comp hN (k := 1) (.inl rfl) u1 u2 (by
      unfold Ck.legal
      rw [if_pos rfl, Bool.and_eq_true]
      refine ⟨?_, ?_⟩
      · have : ¬ Ck.at_ t1.sav order[k] = true := fun q => hnt ((a5 _ (by omega) u2).1 q)
        simpa using this
      · unfold Ck.ready
        rw [List.all_eq_true, hI, i1.pres]
        intro i hi
        rcases hbe i hi with rfl | hm
        · exact i1.zero
        · exact a6 i hm (.inr (pend_mem.2 ⟨order[k], by rw [hd]; exact List.mem_cons_self, hi⟩)))
    obtain ⟨t3, i3, c1, c2, c3, c4, c5⟩ := i2.sweep hN (f k) N hNL
    refine ⟨t3, i3, by rw [c2, b2, a1], by rw [c3, b3, a2], by rw [c4, b4, a3], by rw [c5, b5, a4], fun z z0 z1 => ?_, fun z hz hq => ?_⟩
    · rw [c1, b1, LRel.set_at i1.sav (by omega) u2 z0, ht, List.mem_append, ← a5 z z0 z1]
      by_cases e : z = order[k]
      · simp [e]
      · simp [e]
    · have hzr := hO.rng z (List.mem_of_mem_take hz)
      refine sweep_keep i2.len (by omega) ?_ ?_ N hNL
      · cases hv : f k z with
        | false => rfl
        | true =>
          obtain ⟨q1, q2⟩ := hf k z hv
          rcases hq with hq | hq
          · exact absurd hq q1
          · rw [q2] at hq; cases hq
      · show Ck.at_ (Ck.setB s1.pres order[k] true) z = true
        rw [LRel.set_at i1.len (by omega) u2 (by omega)]
        by_cases e : z = order[k]
        · rw [if_pos e]
        · rw [if_neg e]
          rw [ht, List.mem_append] at hz
          refine a6 z (hz.resolve_right (by simp [e])) ?_
          rcases hq with hq | hq
          · exact .inl hq
          · obtain ⟨u, hu, hzu⟩ := pend_mem.1 hq
            exact .inr (pend_mem.2 ⟨u, by rw [hd]; exact List.mem_cons_of_mem _ hu, hzu⟩)
/-- What stays as it was. -/
structure Fet (c : CkN) (L : Nat) (s : RtS) (t : CkS) (s' : RtS) (t' : CkS) : Prop where
  inv : Inv c L s' t'
  sav : ∀ z : Int, 1 ≤ z → z < L → Ck.at_ t'.sav z = true
  grad : t'.grad = t.grad
  em : t'.em = t.em
  done : t'.done = t.done
  mono : ∀ z : Int, 0 ≤ z → Ck.at_ s.pres z = true → Ck.at_ s'.pres z = true
theorem Fet.trans {s s1 s2 : RtS} {t t1 t2 : CkS} (h : Fet c L s t s1 t1) (k : Fet c L s1 t1 s2 t2) : Fet c L s t s2 t2 :=
  ⟨k.inv, k.sav, by rw [k.grad, h.grad], by rw [k.em, h.em], by rw [k.done, h.done], fun z z0 hz => k.mono z z0 (h.mono z z0 hz)⟩
theorem fetch_inv (hN : Net c L) (hO : Ord c L I r order) : ∀ (m : Nat) (id : Int) {s : RtS} {t : CkS}, Inv c L s t → (∀ z : Int, 1 ≤ z → z < L → Ck.at_ t.sav z = true) → 0 ≤ id → id < L → (id = 0 ∨ r id < m) →
    ∃ t', Fet c L s t (Rt.fetch I m id s) t' ∧ Ck.at_ (Rt.fetch I m id s).pres id = true ∧ ∀ z : Int, 0 ≤ z → Ck.at_ (Rt.fetch I m id s).pres z = true → Ck.at_ s.pres z = true ∨ r z ≤ r id
  | 0, id, s, t, h, hs, h0, h1, hr => by
    have e : id = 0 := by omega
    subst e
    exact ⟨t, ⟨h, hs, rfl, rfl, rfl, fun _ _ hz => hz⟩, h.zero, fun z _ hz => .inl hz⟩
  | m + 1, id, s, t, h, hs, h0, h1, hr => by
    rw [fetch_step]
    by_cases hp : Ck.at_ s.pres id = true
    · rw [if_pos hp]
      exact ⟨t, ⟨h, hs, rfl, rfl, rfl, fun _ _ hz => hz⟩, hp, fun z _ hz => .inl hz⟩
    · rw [if_neg hp]
      have hid : id ≠ 0 := fun e => hp (by rw [e]; exact h.zero)
      have hI : Ck.insF c id = I id := (hO.ins _).resolve_right (fun q => q ⟨by omega, h1⟩)
      have fold : ∀ (l : List Int) {s : RtS} {t : CkS}, Inv c L s t → (∀ z : Int, 1 ≤ z → z < L → Ck.at_ t.sav z = true) → (∀ i ∈ l, (0 ≤ i ∧ i < L) ∧ (i ≠ 0 → r i < r id)) →
          ∃ t', Fet c L s t (l.foldl (fun s i => Rt.fetch I m i s) s) t' ∧ (∀ i ∈ l, Ck.at_ (l.foldl (fun s i => Rt.fetch I m i s) s).pres i = true) ∧ ∀ z : Int, 0 ≤ z → Ck.at_ (l.foldl (fun s i => Rt.fetch I m i s) s).pres z = true → Ck.at_ s.pres z = true ∨ r z < r id := by
        intro l
        induction l with
        | nil => intro s t h hs _; exact ⟨t, ⟨h, hs, rfl, rfl, rfl, fun _ _ hz => hz⟩, fun i hi => (by cases hi), fun z _ hz => .inl hz⟩
        | cons i l ih =>
          intro s t h hs hi
          have hi1 := hi i (by simp)
          obtain ⟨t1, f1, p1, n1⟩ := fetch_inv hN hO m i h hs hi1.1.1 hi1.1.2 (by
            by_cases e : i = 0
            · exact .inl e
            · have := hi1.2 e; exact .inr (by omega))
          obtain ⟨t2, f2, p2, n2⟩ := ih f1.inv f1.sav (fun j hj => hi j (by simp [hj]))
          refine ⟨t2, f1.trans f2, fun j hj => ?_, fun z z0 hz => ?_⟩
          · rcases List.mem_cons.1 hj with rfl | hj
            · exact f2.mono _ hi1.1.1 p1
            · exact p2 j hj
          · rcases n2 z z0 hz with q | q
            · by_cases e : i = 0
              · subst e
                rw [fetch_zero_id m h.zero] at q
                exact .inl q
              · rcases n1 z z0 q with q | q
                · exact .inl q
                · have := hi1.2 e; exact .inr (by omega)
            · exact .inr q
      obtain ⟨t1, f1, p1, n1⟩ := fold (I id) h hs (fun i hi => ⟨hO.ok.rng id (by omega) h1 i hi, hO.ok.lt id (by omega) h1 i hi⟩)
      generalize (I id).foldl (fun s i => Rt.fetch I m i s) s = s1 at *
      have hnp : ¬ Ck.at_ s1.pres id = true := fun q => by
        rcases n1 id h0 q with q | q
        · exact hp q
        · omega
      obtain ⟨t2, i2, b1, b2, b3, b4, b5⟩ := f1.inv.comp hN (k := 2) (.inr rfl) (by omega) h1 (by
        unfold Ck.legal
        rw [if_neg (by decide), if_pos rfl, Bool.and_eq_true, Bool.and_eq_true]
        refine ⟨f1.sav id (by omega) h1, by rw [f1.inv.pres]; simpa using hnp, ?_⟩
        unfold Ck.ready
        rw [List.all_eq_true, hI, f1.inv.pres]
        exact p1)
      have hset : ∀ z : Int, 0 ≤ z → Ck.at_ (Rt.comp 2 id s1).pres z = if z = id then true else Ck.at_ s1.pres z := fun z z0 => LRel.set_at f1.inv.len h0 h1 z0 true
      refine ⟨t2, ⟨i2, fun z z0 z1 => ?_, by rw [b2, f1.grad], by rw [b3, f1.em], by rw [b4, f1.done], fun z z0 hz => ?_⟩, ?_, fun z z0 hz => ?_⟩
      · rw [b1, LRel.set_at f1.inv.sav h0 h1 (by omega)]
        split
        · rfl
        · exact f1.sav z z0 z1
      · rw [hset z z0]
        split
        · rfl
        · exact f1.mono z z0 hz
      · rw [hset id h0, if_pos rfl]
      · rw [hset z z0] at hz
        by_cases e : z = id
        · exact .inr (by rw [e]; exact Nat.le_refl _)
        · rw [if_neg e] at hz
          rcases n1 z z0 hz with q | q
          · exact .inl q
          · exact .inr (by omega)
theorem fetches_inv (hN : Net c L) (hO : Ord c L I r order) (m : Nat) : ∀ (l : List Int) {s : RtS} {t : CkS}, Inv c L s t → (∀ z : Int, 1 ≤ z → z < L → Ck.at_ t.sav z = true) → (∀ i ∈ l, (0 ≤ i ∧ i < L) ∧ (i = 0 ∨ r i < m)) →
    ∃ t', Fet c L s t (l.foldl (fun s i => Rt.fetch I m i s) s) t' ∧ ∀ i ∈ l, Ck.at_ (l.foldl (fun s i => Rt.fetch I m i s) s).pres i = true
  | [], s, t, h, hs, _ => ⟨t, ⟨h, hs, rfl, rfl, rfl, fun _ _ hz => hz⟩, fun i hi => (by cases hi)⟩
  | i :: l, s, t, h, hs, hi => by
    have hi1 := hi i (by simp)
    obtain ⟨t1, f1, p1, _⟩ := fetch_inv hN hO m i h hs hi1.1.1 hi1.1.2 hi1.2
    obtain ⟨t2, f2, p2⟩ := fetches_inv hN hO m l f1.inv f1.sav (fun j hj => hi j (by simp [hj]))
    refine ⟨t2, f1.trans f2, fun j hj => ?_⟩
    rcases List.mem_cons.1 hj with rfl | hj
    · exact f2.mono _ hi1.1.1 p1
    · exact p2 j hj
theorem fresh_has {g : List Bool} {z : Int} (h0 : z ≠ 0) (hg : Ck.at_ g z = false) : ∀ (ins acc : List Int), z ∈ acc ∨ z ∈ ins → z ∈ Ck.freshGo g acc ins
  | [], acc, h => h.resolve_right (by simp)
  | i :: r, acc, h => by
    unfold Ck.freshGo
    split
    · rename_i hc
      refine fresh_has h0 hg r _ ?_
      rcases h with h | h
      · exact .inl (by simp [h])
      · rcases List.mem_cons.1 h with rfl | h
        · exact .inl (by simp)
        · exact .inr h
    · rename_i hc
      refine fresh_has h0 hg r _ ?_
      rcases h with h | h
      · exact .inl h
      · rcases List.mem_cons.1 h with rfl | h
        · refine .inl ?_
          have := fun q => hc ⟨h0, hg, q⟩
          simpa using this
        · exact .inr h
theorem sets_has {z : Int} (z0 : 0 ≤ z) : ∀ (f : List Int) (b : List Bool), b.length = L → (∀ y ∈ f, 0 ≤ y ∧ y < L) → (Ck.at_ b z = true ∨ z ∈ f) → Ck.at_ (Ck.sets b f) z = true
  | [], b, _, _, h => h.resolve_right (by simp)
  | y :: r, b, hl, hf, h => by
    have hy := hf y (by simp)
    refine sets_has z0 r (Ck.setB b y true) (len_set hl _ _) (fun x hx => hf x (by simp [hx])) ?_
    rw [LRel.set_at hl hy.1 hy.2 z0]
    rcases h with h | h
    · left; split
      · rfl
      · exact h
    · rcases List.mem_cons.1 h with rfl | h
      · left; rw [if_pos rfl]
      · exact .inr h
/-- All nodes back. -/
theorem bwd_inv (hN : Net c L) (hO : Ord c L I r order) {b : Nat → Int → Bool} {M N : Nat} (hNL : N < L) (hM : ∀ u : Int, 1 ≤ u → u < L → r u < M) {s : RtS} {t : CkS} (h : Inv c L s t) (hs : ∀ z : Int, 1 ≤ z → z < L → Ck.at_ t.sav z = true)
    (he : t.em = true) (hd : t.done = 0) (hg : Ck.at_ t.grad c.loss = true) :
    ∀ k, k ≤ order.length → ∃ t', Inv c L (Rt.bwd I order M N b k s) t' ∧ (∀ z : Int, 1 ≤ z → z < L → Ck.at_ t'.sav z = true) ∧ t'.em = true ∧ t'.done = k ∧
      ∀ z ∈ order.take (order.length - k), (z = c.loss ∨ pend I z (order.drop (order.length - k)) = true) → Ck.at_ t'.grad z = true
  | 0, _ => ⟨t, h, hs, he, hd, fun z hz hq => by
      rcases hq with rfl | hq
      · exact hg
      · rw [Nat.sub_zero, List.drop_length] at hq; cases hq⟩
  | k + 1, hk => by
    obtain ⟨t1, i1, a1, a2, a3, a4⟩ := bwd_inv hN hO hNL hM h hs he hd hg k (by omega)
    have hkl : order.length - 1 - k < order.length := by omega
    obtain ⟨u1, u2, ue⟩ := at_node hO hkl
    have hus := hO.user _ hkl
    have hI : Ck.insF c (order.getD (order.length - 1 - k) 0) = I (order.getD (order.length - 1 - k) 0) := (hO.ins _).resolve_right (fun q => q ⟨u1, u2⟩)
    have hk1 : order.length - k = order.length - 1 - k + 1 := by omega
    have hk2 : order.length - (k + 1) = order.length - 1 - k := by omega
    have ht := List.take_succ_eq_append_getElem hkl
    have hdr := List.drop_eq_getElem_cons hkl
    have hnt : order[order.length - 1 - k] ∉ order.take (order.length - 1 - k) := fun q => by
      have hn2 := hO.nod.sublist (List.take_sublist (order.length - 1 - k + 1) order)
      rw [ht, List.nodup_append] at hn2
      exact hn2.2.2 _ q _ (by simp) rfl
    rw [show Rt.bwd I order M N b (k + 1) s = Rt.sweep (b (order.length - k)) N (Rt.add 6 (order.getD (order.length - 1 - k) 0) ((I (order.getD (order.length - 1 - k) 0)).foldl (fun s i => Rt.fetch I M i s) (Rt.bwd I order M N b k s))) from rfl]
    rw [hk1] at a4 ⊢
    rw [hk2]
    obtain ⟨j, hj⟩ : ∃ j, order.length - 1 - k = j := ⟨_, rfl⟩
    rw [hj] at hkl
    simp only [hj] at ht hdr hnt hus u1 u2 ue hI a4 ⊢
    obtain ⟨u, hu⟩ : ∃ u, order.getD j 0 = u := ⟨_, rfl⟩
    rw [hu] at hus hI u1 u2 ue ⊢
    subst ue
    have hrg := hO.ok.rng _ u1 u2
    obtain ⟨t2, f2, p2⟩ := fetches_inv hN hO M (I order[j]) i1 a1 (fun i hi => ⟨hrg i hi, by
      by_cases e : i = 0
      · exact .inl e
      · have := hrg i hi; exact .inr (hM i (by omega) this.2)⟩)
    generalize (I order[j]).foldl (fun s i => Rt.fetch I M i s) (Rt.bwd I order M N b k s) = s2 at *
    have hgu : Ck.at_ t2.grad order[j] = true := by
      rw [f2.grad]
      refine a4 _ (by rw [ht]; exact List.mem_append.2 (.inr List.mem_cons_self)) ?_
      rcases hus with q | q
      · exact .inl q
      · exact .inr q
    obtain ⟨t3, i3, b1, b2, b3, b4⟩ := f2.inv.back hN (id := order[j]) u1 u2 (by
      unfold Ck.legal
      rw [if_neg (by decide), if_neg (by decide), if_neg (by decide), if_neg (by decide), if_neg (by decide), if_pos rfl, Bool.and_eq_true, Bool.and_eq_true]
      refine ⟨hgu, ?_, ?_⟩
      · unfold Ck.ready
        rw [List.all_eq_true, hI, f2.inv.pres]
        exact p2
      · unfold Ck.back
        rw [decide_eq_true_iff, hO.ord, f2.done, a3]
        refine ⟨by omega, ?_⟩
        rw [hj, hu])
    obtain ⟨t4, i4, c1, c2, c3, c4, _⟩ := i3.sweep hN (b (j + 1)) N hNL
    refine ⟨t4, i4, fun z z0 z1 => by rw [c1, b1]; exact f2.sav z z0 z1, by rw [c3, b3, f2.em, a2], by rw [c4, b4, f2.done, a3], fun z hz hq => ?_⟩
    have hzr := hO.rng z (List.mem_of_mem_take hz)
    have hzu : z ≠ order[j] := fun e => hnt (by rw [← e]; exact hz)
    rw [c2, b2]
    have hfr : ∀ y ∈ Ck.fresh c t2 order[j], 0 ≤ y ∧ y < L := fun y hy => by
      rcases freshGo_memR _ _ _ _ hy with q | q
      · cases q
      · rw [hI] at q; exact hrg y q
    rw [LRel.set_at (len_sets [] _ _ f2.inv.grad) (by omega) u2 (by omega), if_neg hzu]
    refine sets_has (by omega) _ _ f2.inv.grad hfr ?_
    cases hgz : Ck.at_ t2.grad z with
    | true => exact .inl rfl
    | false =>
      right
      unfold Ck.fresh
      refine fresh_has (by omega) hgz _ _ (.inr ?_)
      rw [hI]
      rcases hq with hq | hq
      · rw [f2.grad, a4 z (by rw [ht]; exact List.mem_append.2 (.inl hz)) (.inl hq)] at hgz; cases hgz
      · obtain ⟨u, hu, hzi⟩ := pend_mem.1 hq
        rw [hdr] at hu
        rcases List.mem_cons.1 hu with rfl | hu
        · exact hzi
        · rw [f2.grad, a4 z (by rw [ht]; exact List.mem_append.2 (.inl hz)) (.inr (pend_mem.2 ⟨u, hu, hzi⟩))] at hgz; cases hgz
end
end Rw
end Go.Proofs.YtnffjfjhbjeaiaaGreatDoor
/- The plain law of layer 21's whole: the whole code goes, and what it costs. -/
namespace Go.Proofs.YtnffjfjhbjeaiaaGreatDoor
namespace Rw
open Rt
theorem base_net {n : NetD} (h : Nt.check n = 0) (cap : Int) : Net (Ck.base n cap) (n.nodes.length + 1) := by
  obtain ⟨_, h512, _, _, hl, _, hlo, _⟩ := Nt.check_ok h
  refine ⟨Nt.words_len h, fun z => ?_, by omega, fun id h1 h2 i hi => ?_⟩
  · show 0 ≤ (Nt.words n).getD z.toNat 0 ∧ (Nt.words n).getD z.toNat 0 ≤ 65536
    rw [List.getD_eq_getElem?_getD]
    rcases Nat.lt_or_ge z.toNat (Nt.words n).length with q | q
    · rw [List.getElem?_eq_getElem q]
      have := Nt.words_bd h _ (List.getElem_mem q)
      rw [Option.getD_some]
      omega
    · rw [List.getElem?_eq_none q]; simp
  · have hI : Ck.insF (Ck.base n cap) id = Nt.insF n.nodes id := by
      show ([] :: n.nodes.map (·.ins)).getD id.toNat [] = _
      obtain ⟨m, rfl⟩ : ∃ m : Nat, id = ((m + 1 : Nat) : Int) := ⟨id.toNat - 1, by omega⟩
      rw [Int.toNat_natCast, List.getD_eq_getElem?_getD, List.getElem?_cons_succ, List.getElem?_map, List.getElem?_eq_getElem (by omega), Nt.insF, Int.natCast_succ, Nt.node_at (by omega)]
      rfl
    rw [hI] at hi
    exact (net_ok h).rng id h1 h2 i hi
theorem base_ord {n : NetD} (h : Nt.check n = 0) (cap : Int) : Ord (Ck.base n cap) (n.nodes.length + 1) (Nt.insF n.nodes) (rank n) (Nt.sorted n.nodes) := by
  obtain ⟨_, h512, _, _, hl, _, hlo, _⟩ := Nt.check_ok h
  obtain ⟨_, l1, l2⟩ := Nt.loss_mem hlo
  have hnd : (Nt.sorted n.nodes).Nodup := (Kn.go_ok _ _ _).nodup
  have hbe : ∀ k, k < (Nt.sorted n.nodes).length → ∀ i ∈ Nt.insF n.nodes ((Nt.sorted n.nodes).getD k 0), i = 0 ∨ i ∈ (Nt.sorted n.nodes).take k := fun k hk i hi => by
    rw [Rt.get_at hk] at hi
    refine Kn.order_behind (Nt.insF n.nodes) n.nodes.length (a := (Nt.sorted n.nodes).take k) (b := (Nt.sorted n.nodes).drop (k + 1)) (u := (Nt.sorted n.nodes)[k]) ?_ i hi
    rw [← List.drop_eq_getElem_cons hk, List.take_append_drop]
    rfl
  refine ⟨fun id => ?_, rfl, order_in, fun u u1 u2 => (Kn.order_full hl u).2 ⟨u1, by omega⟩, hnd, net_ok h, hbe, ⟨l1, by show Nt.loss n.nodes < _; omega⟩, fun k hk => ?_⟩
  · by_cases q : 1 ≤ id ∧ id < ((n.nodes.length + 1 : Nat) : Int)
    · left
      show ([] :: n.nodes.map (·.ins)).getD id.toNat [] = _
      obtain ⟨m, rfl⟩ : ∃ m : Nat, id = ((m + 1 : Nat) : Int) := ⟨id.toNat - 1, by omega⟩
      rw [Int.toNat_natCast, List.getD_eq_getElem?_getD, List.getElem?_cons_succ, List.getElem?_map, List.getElem?_eq_getElem (by omega), Nt.insF, Int.natCast_succ, Nt.node_at (by omega)]
      rfl
    · exact .inr q
  · by_cases e : (Nt.sorted n.nodes).getD k 0 = Nt.loss n.nodes
    · exact .inl e
    · right
      have hr := order_in (n := n) _ (List.getElem_mem hk)
      rw [Rt.get_at hk] at e ⊢
      obtain ⟨j, hj, hje⟩ := has_user h hr.1 (by omega) e
      have hin := hbe j hj _ (by simpa using hje)
      have hkj : k < j := by
        rcases hin with hin | hin
        · omega
        · obtain ⟨i, hi, hie⟩ := List.getElem_of_mem hin
          rw [List.getElem_take] at hie
          rw [List.length_take] at hi
          have hpw := List.pairwise_iff_getElem.1 hnd
          rcases Nat.lt_trichotomy i k with q | q | q
          · exact absurd hie (hpw i k _ hk q)
          · omega
          · exact absurd hie.symm (hpw k i hk _ q)
      refine pend_mem.2 ⟨(Nt.sorted n.nodes)[j], ?_, ?_⟩
      · rw [List.mem_iff_getElem]
        exact ⟨j - (k + 1), by rw [List.length_drop]; omega, by rw [List.getElem_drop]; congr 1; omega⟩
      · rw [Rt.get_at hj] at hje; simpa using hje
theorem rank_lt {n : NetD} (h : Nt.check n = 0) (u : Int) (h1 : 1 ≤ u) (h2 : u < ((n.nodes.length + 1 : Nat) : Int)) : rank n u < n.nodes.length + 1 := by
  obtain ⟨_, _, _, _, hl, _⟩ := Nt.check_ok h
  have := List.idxOf_lt_length_of_mem ((Kn.order_full hl u).2 ⟨h1, by omega⟩)
  unfold rank
  have e : (Nt.sorted n.nodes).length = n.nodes.length := hl
  unfold Nt.sorted at e ⊢
  omega
theorem start_inv {n : NetD} (cap : Int) : Inv (Ck.base n cap) (n.nodes.length + 1) (Rt.start (n.nodes.length + 1)) (Ck.start (n.nodes.length + 1)) := by
  refine ⟨by simp [Rt.start], rfl, by simp [Ck.start], by simp [Ck.start], by simp [Rt.start, Ck.at_], by simp [Ck.start, Rt.start], by simp [Ck.start, Rt.start], fun _ _ => rfl, rfl, fun p hp => by cases hp⟩
/-- What is lowered goes to_ its end. -/
theorem lowered_goes {n : NetD} (h : Nt.check n = 0) (keep : List Int) (cap : Int) : ∃ t, Inv (Ck.base n cap) (n.nodes.length + 1) (lowered n keep) t ∧ t.em = true ∧ t.done = (Nt.sorted n.nodes).length := by
  have hN := base_net h cap
  have hO := base_ord h cap
  obtain ⟨_, _, _, _, hl, _, hlo, _⟩ := Nt.check_ok h
  obtain ⟨_, l1, l2⟩ := Nt.loss_mem hlo
  have hlm : Nt.loss n.nodes ∈ Nt.sorted n.nodes := (Kn.order_full hl _).2 ⟨l1, by omega⟩
  obtain ⟨t1, i1, a1, a2, a3, a4, a5, a6⟩ := fwd_inv hN hO (f := fT n keep) (N := n.nodes.length) (by omega) (start_inv cap) rfl (fun k z hf => by
    unfold fT at hf
    rw [Bool.and_eq_true, Bool.and_eq_true, last_pend] at hf
    refine ⟨of_decide_eq_true hf.2.1, ?_⟩
    have := hf.2.2
    simpa using this) _ (Nat.le_refl _)
  rw [List.take_length] at a5 a6
  obtain ⟨t2, i2, b1, b2, b3, b4, b5⟩ := i1.emit hN (by omega) (a6 _ hlm (.inl rfl)) (by rw [a2]; rfl)
  obtain ⟨t3, i3, c1, c2, c3, c4, c5⟩ := i2.drop hN (id := Nt.loss n.nodes) l1 (by omega) (a6 _ hlm (.inl rfl))
  obtain ⟨t4, i4, d1, d2, d3, d4⟩ := i3.seed hN (by omega) (by rw [c5, b5, a4]; rfl)
  obtain ⟨t5, i5, _, e2, e3, _⟩ := bwd_inv hN hO (b := bT n keep) (M := n.nodes.length + 1) (N := n.nodes.length) (by omega) (rank_lt h) i4 (fun z z0 z1 => by
      rw [d1, c1, b1, a5 z (by omega) z1]; exact hO.all z z0 z1) (by rw [d3, c3, b3]) (by rw [d4, c4, b4, a3]; rfl) (by
      rw [d2, LRel.set_at i3.grad (by show 0 ≤ Nt.loss n.nodes; omega) (by show Nt.loss n.nodes < _; omega) (by show 0 ≤ Nt.loss n.nodes; omega), if_pos rfl]) _ (Nat.le_refl _)
  exact ⟨t5, i5, e2, e3⟩
/-- The nodes that a code reckons for the first time. -/
def one (ps : List (Int × Int)) : List Int := (ps.filter fun p => p.1 == 1).map (·.2)
theorem one_snoc (ps : List (Int × Int)) (k id : Int) : one (ps ++ [(k, id)]) = if k = 1 then one ps ++ [id] else one ps := by
  unfold one
  rw [List.filter_append, List.map_append]
  by_cases e : k = 1 <;> simp [e]
theorem one_sweep (f : Int → Bool) (s : RtS) : ∀ m, one (Rt.sweep f m s).code = one s.code
  | 0 => rfl
  | m + 1 => by
    rw [sweep_step]
    split
    · rw [show (Rt.drop ((m : Int) + 1) (Rt.sweep f m s)).code = (Rt.sweep f m s).code ++ [(3, (m : Int) + 1)] from rfl, one_snoc, if_neg (by decide), one_sweep f s m]
    · exact one_sweep f s m
theorem one_fetch {I : Int → List Int} : ∀ (m : Nat) (id : Int) (s : RtS), one (Rt.fetch I m id s).code = one s.code
  | 0, _, _ => rfl
  | m + 1, id, s => by
    rw [fetch_step]
    split
    · rfl
    · have fold : ∀ (l : List Int) (s : RtS), one (l.foldl (fun s i => Rt.fetch I m i s) s).code = one s.code := by
        intro l
        induction l with
        | nil => intro s; rfl
        | cons i l ih => intro s; rw [List.foldl_cons, ih, one_fetch m i s]
      rw [show ∀ s : RtS, (Rt.comp 2 id s).code = s.code ++ [(2, id)] from fun _ => rfl, one_snoc, if_neg (by decide), fold]
theorem one_fetches {I : Int → List Int} (m : Nat) : ∀ (l : List Int) (s : RtS), one (l.foldl (fun s i => Rt.fetch I m i s) s).code = one s.code
  | [], _ => rfl
  | i :: l, s => by rw [List.foldl_cons, one_fetches m l, one_fetch m i s]
theorem one_fwd {order : List Int} {N : Nat} {f : Nat → Int → Bool} {s : RtS} (h : one s.code = []) : ∀ k, k ≤ order.length → one (Rt.fwd order N f k s).code = order.take k
  | 0, _ => h
  | k + 1, hk => by
    have hkl : k < order.length := by omega
    rw [show Rt.fwd order N f (k + 1) s = Rt.sweep (f k) N (Rt.comp 1 (order.getD k 0) (Rt.fwd order N f k s)) from rfl, one_sweep, show ∀ (s : RtS) (id : Int), (Rt.comp 1 id s).code = s.code ++ [(1, id)] from fun _ _ => rfl, one_snoc, if_pos rfl, one_fwd h k (by omega), Rt.get_at hkl, List.take_succ_eq_append_getElem hkl]
theorem one_bwd {I : Int → List Int} {order : List Int} {M N : Nat} {b : Nat → Int → Bool} {s : RtS} : ∀ k, one (Rt.bwd I order M N b k s).code = one s.code
  | 0 => rfl
  | k + 1 => by
    rw [show Rt.bwd I order M N b (k + 1) s = Rt.sweep (b (order.length - k)) N (Rt.add 6 (order.getD (order.length - 1 - k) 0) ((I (order.getD (order.length - 1 - k) 0)).foldl (fun s i => Rt.fetch I M i s) (Rt.bwd I order M N b k s))) from rfl, one_sweep, show ∀ (s : RtS) (id : Int), (Rt.add 6 id s).code = s.code ++ [(6, id)] from fun _ _ => rfl, one_snoc, if_neg (by decide), one_fetches, one_bwd k]
theorem one_lowered (n : NetD) (keep : List Int) : one (lowered n keep).code = Nt.sorted n.nodes := by
  unfold lowered Rt.lower
  rw [one_bwd, show ∀ s : RtS, (Rt.add 5 0 s).code = s.code ++ [(5, 0)] from fun _ => rfl, one_snoc, if_neg (by decide), show ∀ (s : RtS) (id : Int), (Rt.drop id s).code = s.code ++ [(3, id)] from fun _ _ => rfl, one_snoc, if_neg (by decide), show ∀ s : RtS, (Rt.add 4 0 s).code = s.code ++ [(4, 0)] from fun _ => rfl, one_snoc, if_neg (by decide), one_fwd rfl _ (Nat.le_refl _), List.take_length]
/-- A code costs what it reckons for the first time, and no less. -/
theorem cost_one {cost : List Int} (hc : ∀ k, 0 ≤ cost.getD k 0) : ∀ ps : List (Int × Int), Safe.sum ((one ps).map fun i => cost.getD i.toNat 0) ≤ Safe.sum (Cd.costList cost ps) ∧ (Cd.count 2 ps = 0 → Safe.sum ((one ps).map fun i => cost.getD i.toNat 0) = Safe.sum (Cd.costList cost ps))
  | [] => ⟨by simp [one, Cd.costList], fun _ => by simp [one, Cd.costList]⟩
  | p :: r => by
    obtain ⟨i1, i2⟩ := cost_one hc r
    have hb := Cd.count_bd 2 r
    have hcp := hc p.2.toNat
    have hcnt : Cd.count 2 (p :: r) = (if p.1 == 2 then 1 else 0) + Cd.count 2 r := by
      have := Cd.count_append 2 [p] r
      rw [List.singleton_append] at this
      rw [this]
      simp [Cd.count]
    rw [hcnt]
    unfold one Cd.costList at i1 i2 ⊢
    rw [List.filter_cons, List.filter_cons]
    have hk : Cd.reck p = decide (p.1 = 1 ∨ p.1 = 2) := by unfold Cd.reck; rw [Bool.eq_iff_iff]; simp
    rw [hk]
    rw [List.getD_eq_getElem?_getD] at hcp
    by_cases e1 : p.1 = 1
    · simp [e1, Safe.sum] at i1 i2 ⊢
      refine ⟨by omega, fun q => ?_⟩
      have := i2 q
      omega
    · by_cases e2 : p.1 = 2
      · simp [e2, Safe.sum] at i1 i2 ⊢
        refine ⟨by omega, fun q => ?_⟩
        omega
      · simp [e1, e2] at i1 i2 ⊢
        exact ⟨i1, i2⟩
theorem sum_perm {a b : List Int} (h : a.Perm b) : Safe.sum a = Safe.sum b := by
  induction h with
  | nil => rfl
  | cons x _ ih => simp [Safe.sum, ih]
  | swap x y l => simp [Safe.sum]; omega
  | trans _ _ ih1 ih2 => rw [ih1, ih2]
theorem cost_order {n : NetD} (h : Nt.check n = 0) : Safe.sum ((Nt.sorted n.nodes).map fun i => (Nt.costs n).getD i.toNat 0) = Safe.sum (Nt.costs n) := by
  obtain ⟨_, _, _, _, hl, _⟩ := Nt.check_ok h
  have hp : (Nt.sorted n.nodes).Perm (Kn.ids n.nodes.length) := by
    refine (List.perm_ext_iff_of_nodup (Kn.go_ok _ _ _).nodup (Kn.ids_nodup _)).2 fun u => ?_
    show u ∈ Kn.order (Nt.insF n.nodes) n.nodes.length ↔ _
    rw [Kn.order_full hl u]
    unfold Kn.ids
    rw [List.mem_map]
    constructor
    · intro q
      exact ⟨u.toNat - 1, by rw [List.mem_range]; omega, by omega⟩
    · rintro ⟨i, hi, rfl⟩
      rw [List.mem_range] at hi
      omega
  rw [sum_perm (hp.map _)]
  unfold Nt.costs
  rw [Safe.sum, Int.zero_add]
  congr 1
  unfold Kn.ids
  rw [List.map_map]
  refine List.ext_getElem (by simp [Nt.costsTo_len]) fun i h1 h2 => ?_
  rw [List.getElem_map, List.getElem_range]
  simp only [Function.comp]
  rw [List.getD_eq_getElem?_getD, Int.toNat_natCast, List.getElem?_cons_succ, List.getElem?_eq_getElem h2]
  rfl
end Rw
end Go.Proofs.YtnffjfjhbjeaiaaGreatDoor
/- The plain law of layer 21's whole: how many are reckoned, all kept, and the answer of Run. -/
namespace Go.Proofs.YtnffjfjhbjeaiaaGreatDoor
namespace Rw
open Rt
theorem ord_len {n : NetD} (h : Nt.check n = 0) : (Nt.sorted n.nodes).length = n.nodes.length := (Nt.check_ok h).2.2.2.2.1
/-- How many instructions reckon. -/
def rk (ps : List (Int × Int)) : Nat := (ps.filter Cd.reck).length
theorem rk_snoc (ps : List (Int × Int)) (k id : Int) : rk (ps ++ [(k, id)]) = rk ps + if k = 1 ∨ k = 2 then 1 else 0 := by
  unfold rk
  rw [List.filter_append, List.length_append]
  congr 1
  have hk : Cd.reck (k, id) = decide (k = 1 ∨ k = 2) := by unfold Cd.reck; rw [Bool.eq_iff_iff]; simp
  rw [List.filter_cons, hk]
  by_cases e : k = 1 ∨ k = 2
  · rw [if_pos e, if_pos (by simpa using e)]; rfl
  · rw [if_neg e, if_neg (by simpa using e)]; rfl
theorem rk_sweep (f : Int → Bool) (s : RtS) : ∀ m, rk (Rt.sweep f m s).code = rk s.code
  | 0 => rfl
  | m + 1 => by
    rw [sweep_step]
    split
    · rw [show (Rt.drop ((m : Int) + 1) (Rt.sweep f m s)).code = (Rt.sweep f m s).code ++ [(3, (m : Int) + 1)] from rfl, rk_snoc, if_neg (by decide), rk_sweep f s m]; rfl
    · exact rk_sweep f s m
theorem rk_fetch {I : Int → List Int} : ∀ (m : Nat) (id : Int) (s : RtS), rk (Rt.fetch I m id s).code + s.code.length ≤ rk s.code + (Rt.fetch I m id s).code.length
  | 0, _, _ => Nat.le_refl _
  | m + 1, id, s => by
    rw [fetch_step]
    split
    · exact Nat.le_refl _
    · have fold : ∀ (l : List Int) (s : RtS), rk (l.foldl (fun s i => Rt.fetch I m i s) s).code + s.code.length ≤ rk s.code + (l.foldl (fun s i => Rt.fetch I m i s) s).code.length := by
        intro l
        induction l with
        | nil => intro s; exact Nat.le_refl _
        | cons i l ih => intro s; have := ih (Rt.fetch I m i s); have := rk_fetch (I := I) m i s; rw [List.foldl_cons]; omega
      have := fold (I id) s
      rw [show ∀ s : RtS, (Rt.comp 2 id s).code = s.code ++ [(2, id)] from fun _ => rfl, rk_snoc, if_pos (.inr rfl), List.length_append]
      simp only [List.length_cons, List.length_nil]
      omega
theorem rk_fetches {I : Int → List Int} (m : Nat) : ∀ (l : List Int) (s : RtS), rk (l.foldl (fun s i => Rt.fetch I m i s) s).code + s.code.length ≤ rk s.code + (l.foldl (fun s i => Rt.fetch I m i s) s).code.length
  | [], _ => Nat.le_refl _
  | i :: l, s => by have := rk_fetches (I := I) m l (Rt.fetch I m i s); have := rk_fetch (I := I) m i s; rw [List.foldl_cons]; omega
theorem rk_fwd (n : NetD) (keep : List Int) : ∀ k, rk (fwdN n keep k).code = k
  | 0 => rfl
  | k + 1 => by
    rw [show fwdN n keep (k + 1) = Rt.sweep (fT n keep k) n.nodes.length (Rt.comp 1 ((Nt.sorted n.nodes).getD k 0) (fwdN n keep k)) from rfl, rk_sweep, show ∀ (s : RtS) (id : Int), (Rt.comp 1 id s).code = s.code ++ [(1, id)] from fun _ _ => rfl, rk_snoc, if_pos (.inl rfl), rk_fwd n keep k]
theorem rk_bwd {n : NetD} (h : Nt.check n = 0) (keep : List Int) : ∀ k, k ≤ (Nt.sorted n.nodes).length → rk (bwdN n keep k).code ≤ (Nt.sorted n.nodes).length + k * (n.nodes.length + 1)
  | 0, _ => by
    have e : rk (midN n keep).code = rk (fwdN n keep (Nt.sorted n.nodes).length).code := by
      unfold midN
      rw [show ∀ s : RtS, (Rt.add 5 0 s).code = s.code ++ [(5, 0)] from fun _ => rfl, rk_snoc, if_neg (by decide), show ∀ (s : RtS) (id : Int), (Rt.drop id s).code = s.code ++ [(3, id)] from fun _ _ => rfl, rk_snoc, if_neg (by decide), show ∀ s : RtS, (Rt.add 4 0 s).code = s.code ++ [(4, 0)] from fun _ => rfl, rk_snoc, if_neg (by decide)]
      rfl
    rw [rk_fwd] at e
    show rk (midN n keep).code ≤ _
    omega
  | k + 1, hk => by
    have ih := rk_bwd h keep k (by omega)
    have hr := bwdDN_rel h keep (k := k) (by omega)
    have hkl : (Nt.sorted n.nodes).length - 1 - k < (Nt.sorted n.nodes).length := by omega
    have hu := order_in (n := n) _ (List.getElem_mem hkl)
    rw [show bwdN n keep (k + 1) = Rt.sweep (bT n keep ((Nt.sorted n.nodes).length - k)) n.nodes.length (Rt.add 6 ((Nt.sorted n.nodes).getD ((Nt.sorted n.nodes).length - 1 - k) 0) ((Nt.insF n.nodes ((Nt.sorted n.nodes).getD ((Nt.sorted n.nodes).length - 1 - k) 0)).foldl (fun s i => Rt.fetch (Nt.insF n.nodes) (n.nodes.length + 1) i s) (bwdN n keep k))) from rfl, rk_sweep, show ∀ (s : RtS) (id : Int), (Rt.add 6 id s).code = s.code ++ [(6, id)] from fun _ _ => rfl, rk_snoc, if_neg (by decide), Rt.get_at hkl]
    generalize (Nt.sorted n.nodes)[(Nt.sorted n.nodes).length - 1 - k] = u at *
    have h2 := rk_fetches (I := Nt.insF n.nodes) (n.nodes.length + 1) (Nt.insF n.nodes u) (bwdN n keep k)
    have hf := Rel.fetches (net_ok h) (n.nodes.length + 1) (Nt.insF n.nodes u) hr (fun i hi => (net_ok h).rng u hu.1 hu.2 i hi)
    have c1 := foldD_cnt (I := Nt.insF n.nodes) (n.nodes.length + 1) (Nt.insF n.nodes u) (bwdDN n keep k)
    have c3 := hf.there_le
    rw [← hf.code, ← hr.code] at c1
    have hm : (k + 1) * (n.nodes.length + 1) = k * (n.nodes.length + 1) + (n.nodes.length + 1) := by rw [Nat.add_mul]; omega
    omega
theorem rk_lowered {n : NetD} (h : Nt.check n = 0) (h12 : n.nodes.length ≤ 12) (keep : List Int) : rk (lowered n keep).code ≤ 168 := by
  have hl := ord_len h
  have h1 := rk_bwd h keep _ (Nat.le_refl _)
  rw [lowered_eq]
  rw [hl] at h1 ⊢
  have := Nat.mul_le_mul h12 (show n.nodes.length + 1 ≤ 13 by omega)
  omega
/-- The first instruction stays. -/
theorem head_snoc {l : List (Int × Int)} {x : Int × Int} (h : l.head? = some x) (y : Int × Int) : (l ++ [y]).head? = some x := by
  cases l with
  | nil => cases h
  | cons a r => exact h
theorem head_sweep {x : Int × Int} {f : Int → Bool} {s : RtS} (h : s.code.head? = some x) : ∀ m, (Rt.sweep f m s).code.head? = some x
  | 0 => h
  | m + 1 => by
    rw [sweep_step]
    split
    · exact head_snoc (head_sweep h m) _
    · exact head_sweep h m
theorem head_fetch {x : Int × Int} {I : Int → List Int} : ∀ (m : Nat) (id : Int) (s : RtS), s.code.head? = some x → (Rt.fetch I m id s).code.head? = some x
  | 0, _, _, h => h
  | m + 1, id, s, h => by
    rw [fetch_step]
    split
    · exact h
    · have fold : ∀ (l : List Int) (s : RtS), s.code.head? = some x → (l.foldl (fun s i => Rt.fetch I m i s) s).code.head? = some x := by
        intro l
        induction l with
        | nil => intro s h; exact h
        | cons i l ih => intro s h; exact ih _ (head_fetch m i s h)
      exact head_snoc (fold _ _ h) _
theorem head_fetches {x : Int × Int} {I : Int → List Int} (m : Nat) : ∀ (l : List Int) (s : RtS), s.code.head? = some x → (l.foldl (fun s i => Rt.fetch I m i s) s).code.head? = some x
  | [], _, h => h
  | i :: l, s, h => head_fetches m l _ (head_fetch m i s h)
theorem head_fwd (n : NetD) (keep : List Int) : ∀ k, (fwdN n keep (k + 1)).code.head? = some (1, (Nt.sorted n.nodes).getD 0 0)
  | 0 => head_sweep (s := Rt.comp 1 ((Nt.sorted n.nodes).getD 0 0) (fwdN n keep 0)) rfl _
  | k + 1 => head_sweep (s := Rt.comp 1 ((Nt.sorted n.nodes).getD (k + 1) 0) (fwdN n keep (k + 1))) (head_snoc (head_fwd n keep k) _) _
theorem head_lowered {n : NetD} (h : Nt.check n = 0) (keep : List Int) : (lowered n keep).code.head? = some (1, (Nt.sorted n.nodes).getD 0 0) := by
  obtain ⟨h1, _⟩ := Nt.check_ok h
  have hl := ord_len h
  have hm : (midN n keep).code.head? = some (1, (Nt.sorted n.nodes).getD 0 0) := by
    unfold midN
    obtain ⟨m, hm⟩ : ∃ m, (Nt.sorted n.nodes).length = m + 1 := ⟨(Nt.sorted n.nodes).length - 1, by omega⟩
    rw [hm]
    exact head_snoc (head_snoc (head_snoc (head_fwd n keep m) _) _) _
  have hb : ∀ k, (bwdN n keep k).code.head? = some (1, (Nt.sorted n.nodes).getD 0 0) := by
    intro k
    induction k with
    | zero => exact hm
    | succ k ih => exact head_sweep (s := Rt.add 6 ((Nt.sorted n.nodes).getD ((Nt.sorted n.nodes).length - 1 - k) 0) ((Nt.insF n.nodes ((Nt.sorted n.nodes).getD ((Nt.sorted n.nodes).length - 1 - k) 0)).foldl (fun s i => Rt.fetch (Nt.insF n.nodes) (n.nodes.length + 1) i s) (bwdN n keep k))) (head_snoc (head_fetches _ _ _ ih) _) _
  exact hb _
/-- All kept: nothing is reckoned again. -/
theorem two_snoc (ps : List (Int × Int)) (k id : Int) (h : k ≠ 2) : Cd.count 2 (ps ++ [(k, id)]) = Cd.count 2 ps := by
  rw [Cd.count_append]; simp [Cd.count, h]
theorem two_sweep (f : Int → Bool) (s : RtS) : ∀ m, Cd.count 2 (Rt.sweep f m s).code = Cd.count 2 s.code
  | 0 => rfl
  | m + 1 => by
    rw [sweep_step]
    split
    · rw [show (Rt.drop ((m : Int) + 1) (Rt.sweep f m s)).code = (Rt.sweep f m s).code ++ [(3, (m : Int) + 1)] from rfl, two_snoc _ _ _ (by decide), two_sweep f s m]
    · exact two_sweep f s m
theorem fetches_id {I : Int → List Int} (m : Nat) : ∀ (l : List Int) (s : RtS), (∀ i ∈ l, Ck.at_ s.pres i = true) → l.foldl (fun s i => Rt.fetch I m i s) s = s
  | [], _, _ => rfl
  | i :: l, s, h => by
    have e : Rt.fetch I m i s = s := by
      cases m with
      | zero => rfl
      | succ m => rw [fetch_step, if_pos (h i (by simp))]
    rw [List.foldl_cons, e]
    exact fetches_id m l s fun j hj => h j (by simp [hj])
theorem all_fwd {n : NetD} (h : Nt.check n = 0) {keep : List Int} (hk : ∀ z : Int, 1 ≤ z → z ≤ n.nodes.length → keep.contains z = true) : ∀ k, k ≤ (Nt.sorted n.nodes).length →
    (fwdN n keep k).pres.length = n.nodes.length + 1 ∧ Cd.count 2 (fwdN n keep k).code = 0 ∧ Ck.at_ (fwdN n keep k).pres 0 = true ∧ ∀ z ∈ (Nt.sorted n.nodes).take k, Ck.at_ (fwdN n keep k).pres z = true
  | 0, _ => ⟨by simp [fwdN, Rt.fwd, Rt.start], rfl, by simp [fwdN, Rt.fwd, Rt.start, Ck.at_], fun z hz => by simp at hz⟩
  | k + 1, hk1 => by
    obtain ⟨a1, a2, a3, a4⟩ := all_fwd h hk k (by omega)
    have hkl : k < (Nt.sorted n.nodes).length := by omega
    have hu := order_in (n := n) _ (List.getElem_mem hkl)
    have ht := List.take_succ_eq_append_getElem hkl
    have hf : ∀ z : Int, 1 ≤ z → z ≤ n.nodes.length → fT n keep k z = false := fun z z0 z1 => by unfold fT; rw [hk z z0 z1]; rfl
    rw [show fwdN n keep (k + 1) = Rt.sweep (fT n keep k) n.nodes.length (Rt.comp 1 ((Nt.sorted n.nodes).getD k 0) (fwdN n keep k)) from rfl, Rt.get_at hkl, sweep_pres, two_sweep]
    generalize fwdN n keep k = s at *
    have hl2 : (Rt.comp 1 (Nt.sorted n.nodes)[k] s).pres.length = n.nodes.length + 1 := len_set a1 _ _
    have hz2 : Ck.at_ (Rt.comp 1 (Nt.sorted n.nodes)[k] s).pres 0 = true := comp_zero a3
    refine ⟨hl2, ?_, sweep_zero hz2 _, fun z hz => ?_⟩
    · rw [show ∀ (s : RtS) (id : Int), (Rt.comp 1 id s).code = s.code ++ [(1, id)] from fun _ _ => rfl, two_snoc _ _ _ (by decide), a2]
    · have hzr := order_in (n := n) z (List.mem_of_mem_take hz)
      refine sweep_keep (L := n.nodes.length + 1) hl2 (by omega) (hf z hzr.1 (by omega)) ?_ _ (by omega)
      show Ck.at_ (Ck.setB s.pres (Nt.sorted n.nodes)[k] true) z = true
      rw [LRel.set_at a1 (by omega) hu.2 (by omega)]
      by_cases e : z = (Nt.sorted n.nodes)[k]
      · rw [if_pos e]
      · rw [if_neg e]
        rw [ht, List.mem_append] at hz
        exact a4 z (hz.resolve_right (by simp [e]))
theorem all_bwd {n : NetD} (h : Nt.check n = 0) {keep : List Int} (hk : ∀ z : Int, 1 ≤ z → z ≤ n.nodes.length → keep.contains z = true) : ∀ k, k ≤ (Nt.sorted n.nodes).length →
    (bwdN n keep k).pres.length = n.nodes.length + 1 ∧ Cd.count 2 (bwdN n keep k).code = 0 ∧ Ck.at_ (bwdN n keep k).pres 0 = true ∧ ∀ q, q < (Nt.sorted n.nodes).length - k → ∀ i ∈ Nt.insF n.nodes ((Nt.sorted n.nodes).getD q 0), Ck.at_ (bwdN n keep k).pres i = true
  | 0, _ => by
    obtain ⟨_, _, _, _, hl, _, hlo, _⟩ := Nt.check_ok h
    obtain ⟨_, l1, l2⟩ := Nt.loss_mem hlo
    obtain ⟨a1, a2, a3, a4⟩ := all_fwd h hk _ (Nat.le_refl _)
    rw [List.take_length] at a4
    show (midN n keep).pres.length = _ ∧ Cd.count 2 (midN n keep).code = 0 ∧ Ck.at_ (midN n keep).pres 0 = true ∧ ∀ q, q < (Nt.sorted n.nodes).length - 0 → ∀ i ∈ Nt.insF n.nodes ((Nt.sorted n.nodes).getD q 0), Ck.at_ (midN n keep).pres i = true
    unfold midN
    generalize fwdN n keep (Nt.sorted n.nodes).length = s at *
    refine ⟨len_set a1 _ _, ?_, zero_set a1 a3 l1 (by omega) _, fun q hq i hi => ?_⟩
    · rw [show ∀ s : RtS, (Rt.add 5 0 s).code = s.code ++ [(5, 0)] from fun _ => rfl, two_snoc _ _ _ (by decide), show ∀ (s : RtS) (id : Int), (Rt.drop id s).code = s.code ++ [(3, id)] from fun _ _ => rfl, two_snoc _ _ _ (by decide), show ∀ s : RtS, (Rt.add 4 0 s).code = s.code ++ [(4, 0)] from fun _ => rfl, two_snoc _ _ _ (by decide), a2]
    · have hr := order_in (n := n) _ (List.getElem_mem (show q < (Nt.sorted n.nodes).length by omega))
      rw [Rt.get_at (show q < (Nt.sorted n.nodes).length by omega)] at hi
      have hi1 := (net_ok h).rng _ hr.1 hr.2 i hi
      show Ck.at_ (Ck.setB s.pres (Nt.loss n.nodes) false) i = true
      rw [LRel.set_at a1 (by omega) (by omega) hi1.1, if_neg (fun e => loss_none h _ (e ▸ hi))]
      by_cases e : i = 0
      · rw [e]; exact a3
      · exact a4 i ((Kn.order_full hl i).2 ⟨by omega, by omega⟩)
  | k + 1, hk1 => by
    obtain ⟨_, _, _, _, hl, _, hlo, _⟩ := Nt.check_ok h
    obtain ⟨a1, a2, a3, a4⟩ := all_bwd h hk k (by omega)
    have hkl : (Nt.sorted n.nodes).length - 1 - k < (Nt.sorted n.nodes).length := by omega
    rw [show bwdN n keep (k + 1) = Rt.sweep (bT n keep ((Nt.sorted n.nodes).length - k)) n.nodes.length (Rt.add 6 ((Nt.sorted n.nodes).getD ((Nt.sorted n.nodes).length - 1 - k) 0) ((Nt.insF n.nodes ((Nt.sorted n.nodes).getD ((Nt.sorted n.nodes).length - 1 - k) 0)).foldl (fun s i => Rt.fetch (Nt.insF n.nodes) (n.nodes.length + 1) i s) (bwdN n keep k))) from rfl, fetches_id _ _ _ (a4 _ (by omega)), sweep_pres, two_sweep]
    generalize bwdN n keep k = s at *
    generalize (Nt.sorted n.nodes).getD ((Nt.sorted n.nodes).length - 1 - k) 0 = u
    have hz2 : Ck.at_ (Rt.add 6 u s).pres 0 = true := a3
    refine ⟨a1, ?_, sweep_zero hz2 _, fun q hq i hi => ?_⟩
    · rw [show ∀ (s : RtS) (id : Int), (Rt.add 6 id s).code = s.code ++ [(6, id)] from fun _ _ => rfl, two_snoc _ _ _ (by decide), a2]
    · have hql : q < (Nt.sorted n.nodes).length := by omega
      have hi' := hi
      have hr := order_in (n := n) _ (List.getElem_mem hql)
      rw [Rt.get_at hql] at hi'
      have hi1 := (net_ok h).rng _ hr.1 hr.2 i hi'
      by_cases e : i = 0
      · rw [e]; exact sweep_zero hz2 _
      · refine sweep_keep (s := Rt.add 6 u s) (L := n.nodes.length + 1) a1 hi1.1 ?_ (a4 q (by omega) i hi) n.nodes.length (by omega)
        have hne : i ≠ Nt.loss n.nodes := fun e => loss_none h _ (e ▸ hi')
        unfold bT
        rw [hk i (by omega) (by omega), first_pend _ _ _ (by omega) (by omega) (has_user h (by omega) (by omega) hne)]
        have : pend (Nt.insF n.nodes) i ((Nt.sorted n.nodes).take ((Nt.sorted n.nodes).length - k - 1)) = true := by
          refine pend_mem.2 ⟨(Nt.sorted n.nodes)[q], ?_, hi'⟩
          rw [List.mem_iff_getElem]
          exact ⟨q, by rw [List.length_take]; omega, by rw [List.getElem_take]⟩
        rw [this]
        rfl
/-- Run's answer on what is lowered. -/
theorem run_lowered {n : NetD} (h : Nt.check n = 0) (h12 : n.nodes.length ≤ 12) (keep : List Int) : ∃ peak cost again high : Int, Ck.run n (lowered n keep).code 1073741824 = ((peak, cost, again, high), 0) ∧ 1 ≤ peak ∧ peak ≤ 1073741824 ∧ Safe.sum (Nt.costs n) ≤ cost ∧
    (Ck.run n (lowered n keep).code (peak - 1)).2 = 25 ∧ ((∀ z : Int, 1 ≤ z → z ≤ n.nodes.length → keep.contains z = true) → cost = Safe.sum (Nt.costs n) ∧ again = 0) := by
  have hl := ord_len h
  have hlen := bwdN_short h h12 keep _ (Nat.le_refl _)
  rw [← lowered_eq] at hlen
  obtain ⟨t, i, e1, e2⟩ := lowered_goes h keep 1073741824
  have hrk := rk_lowered h h12 keep
  have hhd := head_lowered h keep
  have hone := one_lowered n keep
  obtain ⟨n1, _⟩ := Nt.check_ok h
  have hall : (∀ z : Int, 1 ≤ z → z ≤ n.nodes.length → keep.contains z = true) → Cd.count 2 (lowered n keep).code = 0 := fun hk => (all_bwd h hk _ (Nat.le_refl _)).2.1
  have hgo := i.go
  have hright := i.right
  have hids := i.ids
  clear i
  generalize (lowered n keep).code = cd at *
  have hm := Nat.mul_le_mul (show n.nodes.length + 1 ≤ 13 by omega) hlen
  have hB : (65536 * ((n.nodes.length + 1 : Nat) : Int) * (cd.length : Int)) ≤ 1073741824 := by
    rw [Int.mul_assoc, ← Int.natCast_mul]; omega
  have g : Ck.go (Ck.base n 1073741824) (Ck.start (n.nodes.length + 1)) cd = (t, 0) := hgo _ hB
  obtain ⟨_, _, p3, p4⟩ := Ck.go_peak (Ck.base n 1073741824) (t.peak - 1) cd (Ck.start (n.nodes.length + 1)) (by rw [g])
  rw [g] at p3 p4
  have q4 : t.peak ≤ 1073741824 := p4 (show (0 : Int) ≤ 1073741824 by decide)
  have q1 : 1 ≤ t.peak := by
    cases cd with
    | nil => cases hhd
    | cons x r =>
      have hx : x = (1, (Nt.sorted n.nodes).getD 0 0) := by simpa using hhd
      have hu := order_in (n := n) _ (List.getElem_mem (show 0 < (Nt.sorted n.nodes).length by omega))
      rw [Rt.get_at (show 0 < (Nt.sorted n.nodes).length by omega)] at hx
      generalize (Nt.sorted n.nodes)[0] = u at hx hu
      subst hx
      have hwd : 1 ≤ Ck.wd (Ck.base n 1073741824) u := by
        show 1 ≤ (Nt.words n).getD u.toNat 0
        have hwl := Nt.words_len h
        rw [List.getD_eq_getElem?_getD, List.getElem?_eq_getElem (by omega), Option.getD_some]
        exact (Nt.words_bd h _ (List.getElem_mem _)).1
      simp only [Ck.go] at g
      split at g
      · rename_i h0
        obtain ⟨p1, _⟩ := Ck.go_peak (Ck.base n 1073741824) 0 r _ (by rw [g])
        rw [g] at p1
        unfold Ck.do_ at h0 p1
        split at h0
        · simp at h0
        · rename_i c1
          rw [if_neg c1] at p1
          split at h0
          · simp at h0
          · rename_i c2
            rw [if_neg c2] at p1
            split at h0
            · simp at h0
            · rename_i c3
              rw [if_neg c3] at p1
              simp only [Ck.peak_act] at p1
              have hmo : Ck.more (Ck.base n 1073741824) (Ck.start (n.nodes.length + 1)) 1 u = Ck.wd (Ck.base n 1073741824) u := by unfold Ck.more; rw [if_pos (.inl rfl)]
              rw [hmo] at p1
              have hn0 : (Ck.start (n.nodes.length + 1)).now = 0 := rfl
              rw [hn0] at p1
              omega
      · rename_i h0
        rw [g] at h0
        exact absurd rfl h0
  have q3 := p3 (show (0 : Int) ≤ t.peak - 1 by omega) (show t.peak - 1 < t.peak by omega)
  have hchk := Cd.check_ok (ps := cd) (by omega) hright
  have hcl : (Nt.costs n).length = n.nodes.length + 1 := by rw [Nt.costs, List.length_cons, Nt.costsTo_len]
  have hcb : ∀ k, 0 ≤ (Nt.costs n).getD k 0 ∧ (Nt.costs n).getD k 0 ≤ 4294967296 := fun k => by
    rw [List.getD_eq_getElem?_getD]
    rcases Nat.lt_or_ge k (Nt.costs n).length with hl | hl
    · rw [List.getElem?_eq_getElem hl, Option.getD_some]
      rcases List.mem_cons.1 (List.getElem_mem hl) with e | hm
      · rw [e]; omega
      · exact Nt.costs_bd h n.nodes.length (Nat.le_refl _) _ hm
    · rw [List.getElem?_eq_none hl]; simp
  have hsb := Nt.sum_bd (B := 4294967296) (l := Cd.costList (Nt.costs n) cd) (fun z hz => by
    unfold Cd.costList at hz
    obtain ⟨p, _, rfl⟩ := List.mem_map.1 hz
    exact hcb _)
  have hll : (Cd.costList (Nt.costs n) cd).length ≤ 168 := by unfold Cd.costList; rw [List.length_map]; exact hrk
  have hbb : ((Cd.costList (Nt.costs n) cd).length : Int) * 4294967296 ≤ 168 * 4294967296 := Int.mul_le_mul_of_nonneg_right (by omega) (by omega)
  have hcs := Cd.costs_sum (ps := cd) (cost := Nt.costs n) hchk (by
    rw [List.all_eq_true]
    intro p hp
    have hid := hids p hp
    have h1 := hcb p.2.toNat
    have h2 : Safe.ok ((Nt.costs n).getD p.2.toNat 0) = true := by rw [Safe.ok_iff]; omega
    unfold Cd.fine Cd.costOk
    rw [h2, decide_eq_true (by omega)]
    simp) (by rw [Safe.top_eq]; omega)
  obtain ⟨o1, o2⟩ := cost_one (cost := Nt.costs n) (fun k => (hcb k).1) cd
  rw [hone, cost_order h] at o1 o2
  have hwhole : Ck.whole (Ck.base n 1073741824) t = true := by
    unfold Ck.whole
    rw [e1, e2]
    show (true && decide ((Nt.sorted n.nodes).length = (Nt.sorted n.nodes).length)) = true
    simp
  refine ⟨t.peak, Safe.sum (Cd.costList (Nt.costs n) cd), Cd.count 2 cd, max t.peak (Safe.max ((Nt.words n).drop 1)), ?_, q1, q4, o1, ?_, fun hk => ?_⟩
  · unfold Ck.run
    rw [if_neg (by simp [h]), if_neg (by simp [hchk]), g, if_neg (by simp), if_neg (by rw [hwhole]; decide), hcs, if_neg (by simp)]
  · have q3' : (Ck.go (Ck.base n (t.peak - 1)) (Ck.start (n.nodes.length + 1)) cd).2 = 25 := q3
    unfold Ck.run
    rw [if_neg (by simp [h]), if_neg (by simp [hchk]), if_pos (by rw [q3']; decide), q3']
  · have := hall hk
    exact ⟨(o2 this).symm, this⟩
end Rw
end Go.Proofs.YtnffjfjhbjeaiaaGreatDoor
/- Layer 21 (roots): All and Cost: contracts. -/
namespace Go.Proofs.YtnffjfjhbjeaiaaGreatDoor
open Go.RowKit
def wones (m : Nat) : List Int := (List.range m).map fun (i : Nat) => ((i : Nat) : Int) + 1
theorem wones_len (m : Nat) : (wones m).length = m := by simp [wones]
theorem wones_succ (m : Nat) : wones (m + 1) = wones m ++ [(m : Int) + 1] := by simp [wones, List.range_succ]
/-- The first k filled. -/
def wonesTo (m k : Nat) : List Int := wones k ++ List.replicate (m - k) 0
theorem wonesTo_zero (m : Nat) : wonesTo m 0 = List.replicate m 0 := by simp [wonesTo, wones]
theorem wonesTo_len {m k : Nat} (h : k ≤ m) : (wonesTo m k).length = m := by simp [wonesTo, wones_len]; omega
theorem wonesTo_all (m : Nat) : wonesTo m m = wones m := by simp [wonesTo]
theorem wonesTo_set {m k : Nat} (h : k < m) : (wonesTo m k).set k ((k : Int) + 1) = wonesTo m (k + 1) := by
  unfold wonesTo
  have hr : List.replicate (m - k) (0 : Int) = 0 :: List.replicate (m - (k + 1)) 0 := by
    rw [← List.replicate_succ]; congr 1; omega
  rw [hr, List.set_append_right _ _ (by rw [wones_len]; exact Nat.le_refl _), wones_len, Nat.sub_self, List.set_cons_zero, wones_succ, List.append_assoc]
  rfl
theorem rw_row {w : World} {g : Nat} {t : TypeId} (l : List Int) (h : Blk w g t (intV l).toArray) : Ints .i64 w (some ⟨g, 0, none⟩) l := Ints.of_row fun j hj => by
  rw [Nat.zero_add, h.cell]; simp [intV, hj]
def RwRowP (l : List Int) (w : World) (e : Ending) (w' : World) : Prop :=
  ∃ A c, e = .returned (.slice A l.length c) ∧ Ints .i64 w' A l ∧ Later w w'
set_option maxHeartbeats 8000000 in
set_option maxRecDepth 100000 in
theorem rw_all (A N : Option Addr) (c d : Nat) (n : NetD) (w : World) (hnl : n.nodes.length ≤ 1000000) :
    Calls Tryz.prog 15 #[.agg #[.slice A n.inn.length c, .slice N n.nodes.length d]] w (RwRowP (wones n.nodes.length) w) := by
  obtain ⟨i0, hi, hz0, hz1, hz2⟩ := info_parts int_info
  have hl0 : Later w (w.alloc (.cells #[.slice A n.inn.length c, .slice N n.nodes.length d] 26)) := (Later.refl w).alloc _
  have hs0 : (w.alloc (.cells #[.slice A n.inn.length c, .slice N n.nodes.length d] 26)).heap.size = w.heap.size + 1 := World.size_alloc _ _
  have Hl0 := Lib.hid hl0
  have Hs0 := Lib.hid hs0
  clear hl0 hs0
  go_enter Tryz.func15, Tryz.ntmps15
  go_wp2_with (at_make; refine wpList_make_full _ rfl _ _ 22 rfl (w.heap.size + 1) 3 i0 (.int .i64 0) 1 Tryz.underlying22 hi hz0 hz1 _ _ _ _ n.nodes.length rfl rfl (by first | rfl | simp | (go_simp; rfl)) (by first | rfl | simp | (go_simp; rfl)) ?b2 ?b3 ?b4 ?_)
  case b2 => rw [hz2]; omega
  case b3 => unfold maxLen; omega
  case b4 => simp
  intro w3 hown hgrow
  have hblk := own_cur hown
  rw [made_one] at hblk
  generalize hw1 : w.alloc (.cells #[.slice A n.inn.length c, .slice N n.nodes.length d] 26) = w1 at *
  have hm0 : Blk w3 (w.heap.size + 1) 3 (intV (wonesTo n.nodes.length 0)).toArray := by
    rw [wonesTo_zero, intV, List.map_replicate]
    exact hblk
  have hl3 : Later w1 w3 := (Below.refl _ w1).grown hgrow (Nat.le_refl _) (by simp)
  clear hblk hown hgrow hw1
  generalize n.nodes.length = m at *
  have HG0 := Hs0.out
  generalize hg : w.heap.size + 1 = g at *
  have HG := Lib.hid HG0
  clear hg HG0
  have HON := Lib.hid (fun k (h : k ≤ m) => wonesTo_len h)
  have HOS := Lib.hid (fun k (h : k < m) => wonesTo_set h)
  have HOA := Lib.hid (wonesTo_all m)
  have HOL := Lib.hid (wones_len m)
  have Hm0 := Lib.hid hm0
  have Hl3 := Lib.hid hl3
  clear hm0 hl3
  go_wp2_with fail
  go_loopw [4, 11] (fun _ i wx => ∃ k : Nat, k ≤ m ∧ i = .int .i64 (k : Int) ∧ Blk wx g 3 (intV (wonesTo m k)).toArray ∧ Later w1 wx) (fun _ i _ => m - (intOf i).toNat)
  case atStart => exact ⟨0, Nat.zero_le _, rfl, Hm0.out, Hl3.out⟩
  case round =>
    obtain ⟨k, hk, rfl, hm, hlw⟩ := hrel
    clear Hm0
    by_cases hlt : k < m
    · have HS := Lib.hid (HOS.out k hlt)
      have hll := HON.out k hk
      obtain ⟨y, hy⟩ := hm.has (j := k) (by rw [intV_len, hll]; exact hlt)
      have fy := hm.frozen k
      have hbs := hm.set_ k (.int .i64 ((k : Int) + 1))
      have HBS := Lib.hid (show Blk (wr.setCell ⟨g, k, none⟩ (.int .i64 ((k : Int) + 1))) g 3 (intV (wonesTo m (k + 1))).toArray by
        rw [← HS.out]
        simpa [intV, List.map_set] using hbs)
      have HLX := Lib.hid (hlw.set (p := ⟨g, k, none⟩) (by rw [HG.out]; exact Nat.le_refl _) (.int .i64 ((k : Int) + 1)))
      have k1 : (k : Int) < (m : Int) := by omega
      clear hbs hm hlw hll
      go_wp2_with fail
      go_roundw
      case rel => exact ⟨k + 1, by omega, by go_num, HBS.out, HLX.out⟩
      case measure => simp [intOf]; omega
    · obtain rfl : k = m := by omega
      rw [HOA.out] at hm
      have hI := rw_row _ hm
      have hl := Hl0.out.trans hlw
      have HI := Lib.hid hI
      have Hl := Lib.hid hl
      clear hI hl
      clear hm hlw
      go_wp2_with fail
      go_ret
      refine ⟨some ⟨g, 0, none⟩, k, ?_, HI.out, Hl.out⟩
      rw [HOL.out]
      rfl
set_option maxHeartbeats 16000000 in
set_option maxRecDepth 100000 in
theorem roots_cost (A N K : Option Addr) (c d ck : Nat) (n : NetD) (keep : List Int) (cap : Int) (W : World) (hok : n.ok) (hR : NetR W A N n) (hd : n.nodes.length ≤ d) (h12 : n.nodes.length ≤ 12) (hK : Ints .i64 W K keep) (hkl : keep.length ≤ 9223372036854775807) (hch : Nt.check n = 0) (hnb : nodesB n.nodes.length keep = true)
    (hcap : -9223372036854775808 ≤ cap ∧ cap ≤ 9223372036854775807) :
    Calls Tryz.prog 14 #[.agg #[.slice A n.inn.length c, .slice N n.nodes.length d], .slice K keep.length ck, .int .i64 cap] W fun e w' => e = .returned (statsV (Ck.run n (Rt.lowered n keep).code cap)) ∧ Later W w' := by
  have hk0 := Blk.new W 26 #[.slice A n.inn.length c, .slice N n.nodes.length d]
  have hl0 : Later W ((W.alloc (.cells #[.slice A n.inn.length c, .slice N n.nodes.length d] 26)).alloc (.cells #[.int .i64 0, .int .i64 0, .int .i64 0, .int .i64 0] 47)) := ((Later.refl W).alloc _).alloc _
  have hk1 := hk0.alloc (.cells #[.int .i64 0, .int .i64 0, .int .i64 0, .int .i64 0] 47)
  have hb0 := Blk.new (W.alloc (.cells #[.slice A n.inn.length c, .slice N n.nodes.length d] 26)) 47 #[.int .i64 0, .int .i64 0, .int .i64 0, .int .i64 0]
  rw [World.size_alloc] at hb0
  have hlen : (Rt.lowered n keep).code.length ≤ 1000 := by rw [Rt.lowered_eq]; exact Rt.bwdN_short hch h12 keep _ (Nat.le_refl _)
  have HR := Lib.hid hR
  have Hok := Lib.hid hok
  have Hl0 := Lib.hid hl0
  have Hb0 := Lib.hid hb0
  have Hk1 := Lib.hid hk1
  have HK := Lib.hid hK
  have Hch := Lib.hid hch
  have Hnb := Lib.hid hnb
  clear hR hok hl0 hb0 hk1 hK hch hnb
  clear hk0
  go_enter Tryz.func14, Tryz.ntmps14
  go_wp2_with fail
  generalize (W.alloc (.cells #[.slice A n.inn.length c, .slice N n.nodes.length d] 26)).alloc (.cells #[.int .i64 0, .int .i64 0, .int .i64 0, .int .i64 0] 47) = W1 at *
  have x0 := Hk1.out.cell 0
  have x1 := Hk1.out.cell 1
  simp at x0 x1
  go_wp2_with fail
  refine (roots_lower A N K c d ck n keep W1 Hok.out (HR.out.below Hl0.out (Nat.le_refl _)) hd h12 (HK.out.below Hl0.out (Nat.le_refl _)) hkl).mono ?_
  rintro e W2 ⟨h12', ⟨h0, -⟩ | ⟨-, h0, -⟩ | ⟨-, -, C, cc, rfl, hP⟩⟩
  · exact absurd Hch.out h0
  · rw [Hnb.out] at h0; cases h0
  have hk2 := h12'.blk Hk1.out
  have hb2 := h12'.blk Hb0.out
  have hl2 := Hl0.out.trans h12'
  generalize hcd : (Rt.lowered n keep).code = cd at *
  clear x0 x1
  have x0 := hk2.cell 0
  have x1 := hk2.cell 1
  simp at x0 x1
  have Hk2 := Lib.hid hk2
  have Hb2 := Lib.hid hb2
  have Hl2 := Lib.hid hl2
  have HP := Lib.hid hP
  have Hcd := Lib.hid hcd
  clear hk2 hb2 hl2 hP hcd
  clear h12' Hb0 Hl0 Hk1
  go_wp2_with fail
  refine (check_run A N C c d cc n cd cap W2 Hok.out (HR.out.below Hl2.out (Nat.le_refl _)) hd (by omega) hcap (by omega) HP.out).mono ?_
  rintro e W3 ⟨rfl, h3⟩
  have hl3 := Hl2.out.trans h3
  obtain ⟨⟨y0, y1, y2, y3⟩, f0, f1, f2, f3⟩ := four_cells (h3.blk Hb2.out)
  clear x0 x1
  obtain ⟨⟨⟨r1, r2, r3, r4⟩, r5⟩, hr⟩ : ∃ r, Ck.run n cd cap = r := ⟨_, rfl⟩
  rw [hr, show statsV ((r1, r2, r3, r4), r5) = .tuple #[.agg #[.int .i64 r1, .int .i64 r2, .int .i64 r3, .int .i64 r4], .int .i64 r5] from rfl]
  have hbw := box4 hl3 (Nat.le_succ W.heap.size) (.int .i64 r1) (.int .i64 r2) (.int .i64 r3) (.int .i64 r4)
  have Hbw := Lib.hid hbw
  have Hr := Lib.hid hr
  clear hbw hr
  clear h3 hl3
  go_wp2_with fail
  refine bodyPost_ret (v := .tuple #[.agg #[.int .i64 r1, .int .i64 r2, .int .i64 r3, .int .i64 r4], .int .i64 r5]) (by simp [results, Tryz.results14, go_sem, y0, y1, y2, y3]) rfl ?_
  exact ⟨by rw [Hcd.out, Hr.out]; rfl, Hbw.out⟩
end Go.Proofs.YtnffjfjhbjeaiaaGreatDoor
/- Arguments that came in, opened: slices of structs. After the guide's own lemma on slices of structs. No program is named here. -/
namespace Go.Proofs.YtnffjfjhbjeaiaaGreatDoor
open Go.ChangeShapes Go.WideShapes Go.Deep Go.RowKit
section
variable {H : Type} {enc : TypeId × Value → H} {P : Program} {w : World} {base : Nat} {spare : Nat → Bool} {held : Bool}
theorem open_slice_fields {t e : TypeId} {fs : Array Field} {fuel : Nat} {cs : List Value} {x : DataW H × List MemPlace} (ht : P.underlying t = some (.slice e)) (he : P.underlying e = some (.struct fs))
    (hone : oneCellFields P fs = true) (hC : P.cellsOf e = fs.size) (h : DataW.trod enc P w base spare held fuel t cs = some x) :
    (cs = [.slice none 0 0] ∧ x = (.nil, [])) ∨
    ∃ (a : Addr) (len cap m : Nat) (D : Nat → DataW H) (Pl : Nat → List MemPlace), cs = [.slice (some a) len cap] ∧ base ≤ a.block ∧ len ≤ cap ∧ cap ≤ maxLen ∧ m = (if spare a.block then cap else len) ∧
      x = (.slice ((List.range len).map D) ((List.range (m - len)).map fun j => D (len + j)), MemPlace.row a (m * fs.size) ++ (List.range m).flatMap Pl) ∧
      ∀ i, i < m → ∃ (ys : List (DataW H × List MemPlace)) (n : Nat), D i = .agg (ys.map (·.1)) ∧ Pl i = ys.flatMap (·.2) ∧ ys.length = fs.size ∧
        ∀ (j : Nat) (f : Field), fs[j]? = some f → ∃ (v : Value) (y : DataW H × List MemPlace), w.cell? (a.add (i * fs.size + j)) = some v ∧ ys[j]? = some y ∧ DataW.trod enc P w base spare held n f.type [v] = some y := by
  rcases open_slice ht h with h0 | ⟨a, len, cap, m, n, D, Pl, hcs, hb, hl, hm, hmm, hx, hi⟩
  · exact .inl h0
  · refine .inr ⟨a, len, cap, m, D, Pl, hcs, hb, hl, hm, hmm, by rw [hC] at hx; exact hx, fun i him => ?_⟩
    obtain ⟨cs', hc, ht'⟩ := hi i him
    rw [hC] at hc
    obtain ⟨ys, n', hn', hy, hlen, hyl, hf⟩ := DataW.trod_struct he ht'
    obtain ⟨_, hcl, hat⟩ := World.cells?_some hc
    simp only [Prod.mk.injEq] at hy
    refine ⟨ys, n', hy.1, hy.2, hyl, fun j f hj => ?_⟩
    obtain ⟨ho, hk⟩ := hone_of hone j f hj
    have hjl : j < fs.size := (Array.getElem?_eq_some_iff.1 hj).1
    have hcell := hat j hjl
    have hv : cs'[j]? = some (cs'[j]'(by omega)) := List.getElem?_eq_getElem (by omega)
    have h1 := hf j f hj
    rw [ho, hk] at h1
    have hone' : (cs'.drop j).take 1 = [cs'[j]'(by omega)] := by
      rw [List.drop_eq_getElem_cons (by omega)]
      rfl
    rw [hone'] at h1
    have hys : ys[j]? = some (ys[j]'(by omega)) := List.getElem?_eq_getElem (by omega)
    refine ⟨_, _, ?_, hys, h1.trans hys⟩
    rw [← Go.Deep.add_add, hcell, hv]
end

/-- The address of a row whose first cell is there is a plain one. -/
theorem plain_row {w : World} {a : Addr} {v : Value} (h : w.cell? (a.add 0) = some v) : ∃ b off, a = ⟨b, off, none⟩ := by
  obtain ⟨b, off, spot⟩ := a
  have hs : spot = none := by simpa [Addr.add] using World.cell?_spot h
  subst hs
  exact ⟨b, off, rfl⟩
theorem add_plain' (b off j : Nat) : (⟨b, off, none⟩ : Addr).add j = ⟨b, off + j, none⟩ := by
  unfold Addr.add; split <;> simp_all
section
variable {H : Type} {enc : TypeId × Value → H} {P : Program} {w : World} {base : Nat} {spare : Nat → Bool} {held : Bool}
/-- A slice of integers. -/
theorem ints_open {t e : TypeId} {k : IntKind} {fuel : Nat} {v : Value} {x : DataW H × List MemPlace} (ht : P.underlying t = some (.slice e)) (he : P.underlying e = some (.int k)) (hc : P.cellsOf e = 1) (h : DataW.trod enc P w base spare held fuel t [v] = some x) :
    ∃ A cap zs, v = .slice A zs.length cap ∧ zs.length ≤ 9223372036854775807 ∧ zs.length ≤ cap ∧ Ints k w A zs ∧ ∀ n ∈ zs, (Lit.int k n).wf = true := by
  rcases open_ints ht he hc h with ⟨hcs, _⟩ | ⟨a, len, cap, zs, hcs, _, hl, hm, hz, _, hcell, hwz⟩
  · simp at hcs; subst hcs
    exact ⟨none, 0, [], rfl, by simp, by simp, Ints.nil, by simp⟩
  · simp at hcs; subst hcs
    have hlz : len ≤ zs.length := by rw [hz]; split <;> omega
    have hll : (zs.take len).length = len := by rw [List.length_take]; omega
    refine ⟨some a, cap, zs.take len, by rw [hll], by rw [hll]; unfold maxLen at hm; omega, by omega, fun j hj => ?_, fun n hn => hwz n (List.mem_of_mem_take hn)⟩
    have hj' : j < len := by omega
    obtain ⟨b, off, rfl⟩ := plain_row (w := w) (a := a) (v := .int k (zs.getD 0 0)) (hcell 0 (by omega))
    have hc2 := hcell j (by omega)
    rw [add_plain'] at hc2
    refine ⟨b, off, rfl, World.block_lt_of_cell? _ _ hc2, ?_⟩
    rw [hc2]
    have e : (zs.take len).getD j 0 = zs.getD j 0 := by simp [List.getD_eq_getElem?_getD, hj']
    rw [e]
end
end Go.Proofs.YtnffjfjhbjeaiaaGreatDoor
/- A net of bounded bulk, come in as an argument, opened. -/
namespace Go.Proofs.YtnffjfjhbjeaiaaGreatDoor
open Go.ChangeShapes Go.WideShapes Go.Deep Go.RowKit

section
variable {H : Type} {enc : TypeId × Value → H} {P : Program} {W : World} {base : Nat} {spare : Nat → Bool} {held : Bool}
theorem bulk_one (d : DataW H) : 1 ≤ Rows.uptoBulk d := by
  cases d with
  | lit l => cases l <;> simp [Rows.uptoBulk]
  | nil => simp [Rows.uptoBulk]
  | ptr d => simp [Rows.uptoBulk]
  | slice elems spare => simp [Rows.uptoBulk]
  | agg parts => simp [Rows.uptoBulk]
  | iface t d => simp [Rows.uptoBulk]
  | map entries => simp [Rows.uptoBulk]
  | held h => simp [Rows.uptoBulk]
theorem bulk_part {d : DataW H} {l : List (DataW H)} (h : d ∈ l) : Rows.uptoBulk d ≤ Rows.uptoBulkAll l := by
  induction l with
  | nil => cases h
  | cons x r ih =>
    simp only [Rows.uptoBulkAll]
    cases List.mem_cons.1 h with
    | inl e => subst e; omega
    | inr e => have := ih e; omega
theorem bulk_len (l : List (DataW H)) : l.length ≤ Rows.uptoBulkAll l := by
  induction l with
  | nil => simp [Rows.uptoBulkAll]
  | cons x r ih => have := bulk_one x; simp only [Rows.uptoBulkAll, List.length_cons]; omega
/-- The elements of a slice, and their bulk. -/
theorem slice_bulk {t e : TypeId} {fuel : Nat} {v : Value} {x : DataW H × List MemPlace} (ht : P.underlying t = some (.slice e)) (h : DataW.trod enc P W base spare held fuel t [v] = some x) (hz : Rows.uptoBulk x.1 ≤ 1048576) :
    v = .slice none 0 0 ∨ ∃ a len cap, v = .slice (some a) len cap ∧ len ≤ cap ∧ cap ≤ maxLen ∧ len ≤ 1048576 ∧
      ∀ i, i < len → ∃ cs' m y, W.cells? base (a.add (i * P.cellsOf e)) (P.cellsOf e) = some cs' ∧ DataW.trod enc P W base spare held m e cs' = some y ∧ Rows.uptoBulk y.1 ≤ 1048576 := by
  rcases open_slice ht h with ⟨hcs, _⟩ | ⟨a, len, cap, m, n, D, Pl, hcs, _, hl, hm, hmm, hx, hi⟩
  · simp at hcs; exact .inl hcs
  · simp at hcs; subst hcs
    right
    have hlm : len ≤ m := by rw [hmm]; split <;> omega
    rw [hx] at hz
    simp only [Rows.uptoBulk] at hz
    refine ⟨a, len, cap, rfl, hl, hm, ?_, fun i hil => ?_⟩
    · have := bulk_len ((List.range len).map D)
      simp at this
      omega
    · obtain ⟨cs', h1, h2⟩ := hi i (by omega)
      refine ⟨cs', n, _, h1, h2, ?_⟩
      have := bulk_part (d := D i) (l := (List.range len).map D) (List.mem_map.2 ⟨i, by simpa using hil, rfl⟩)
      show Rows.uptoBulk (D i) ≤ _
      omega
end

theorem int_one' : Tryz.prog.cellsOf 3 = 1 := by kernel_rfl
theorem shp_one : Tryz.prog.cellsOf 23 = 1 := by kernel_rfl
theorem node_cells : Tryz.prog.cellsOf 67 = 10 := by kernel_rfl

/-- A slice of numbers, of whatever name, with its size. -/
theorem nums_open {H : Type} {enc : TypeId × Value → H} {W : World} {base : Nat} {spare : Nat → Bool} {held : Bool} {t : TypeId} {fuel : Nat} {v : Value} {x : DataW H × List MemPlace} (ht : Tryz.prog.underlying t = some (.slice 3))
    (h : DataW.trod enc Tryz.prog W base spare held fuel t [v] = some x) (hz : Rows.uptoBulk x.1 ≤ 1048576) :
    ∃ A c zs, v = .slice A zs.length c ∧ Ints .i64 W A zs ∧ zs.length ≤ c ∧ c ≤ 9223372036854775807 ∧ zs.length ≤ 1048576 ∧ ∀ z ∈ zs, -9223372036854775808 ≤ z ∧ z ≤ 9223372036854775807 := by
  obtain ⟨A, c, zs, rfl, hl, hc, hI, hw⟩ := ints_open ht Tryz.underlying3 int_one' h
  refine ⟨A, c, zs, rfl, hI, hc, ?_, ?_, fun z hz => wf_bd (hw z hz)⟩
  · rcases slice_bulk ht h hz with e | ⟨a, len, cap, e, _, hm, _⟩
    · injection e with _ _ e; omega
    · injection e with _ _ e; unfold maxLen at hm; omega
  · rcases slice_bulk ht h hz with e | ⟨a, len, cap, e, _, _, hb, _⟩
    · injection e with _ e _; rw [e]; exact Nat.zero_le _
    · have e2 : zs.length = len := by simp at e; exact e.2.1
      rw [e2]
      exact hb
theorem one_list {l : List Value} (h : l.length = 1) : ∃ v, l = [v] := by
  match l, h with
  | [v], _ => exact ⟨v, rfl⟩
theorem choose_list {α : Type} [Inhabited α] {n : Nat} {Q : Nat → α → Prop} (h : ∀ i, i < n → ∃ a, Q i a) : ∃ l : List α, l.length = n ∧ ∀ i (hi : i < l.length), Q i l[i] := by
  obtain ⟨f, hf⟩ := @choose_lt α _ _ _ h
  exact ⟨(List.range n).map f, by simp, fun i hi => by simp at hi; simpa using hf i hi⟩
theorem addr_lit {W : World} {a : Addr} {v : Value} (h : W.cell? a = some v) : ∃ b off, a = ⟨b, off, none⟩ := by
  obtain ⟨b, off, spot⟩ := a
  have hs : spot = none := by simpa using World.cell?_spot h
  subst hs
  exact ⟨b, off, rfl⟩
/-- A slice of shapes. -/
theorem shps_open {H : Type} {enc : TypeId × Value → H} {W : World} {base : Nat} {spare : Nat → Bool} {held : Bool} {fuel : Nat} {v : Value} {x : DataW H × List MemPlace}
    (h : DataW.trod enc Tryz.prog W base spare held fuel 65 [v] = some x) (hz : Rows.uptoBulk x.1 ≤ 1048576) :
    ∃ A c ss, v = .slice A ss.length c ∧ Shps W A ss ∧ ss.length ≤ c ∧ c ≤ 9223372036854775807 ∧ ss.length ≤ 1048576 ∧ ∀ s ∈ ss, s.length ≤ 1048576 ∧ ∀ z ∈ s, -9223372036854775808 ≤ z ∧ z ≤ 9223372036854775807 := by
  rcases slice_bulk Tryz.underlying65 h hz with rfl | ⟨a, len, cap, rfl, hl, hm, hb, hi⟩
  · exact ⟨none, 0, [], rfl, Shps.nil, by simp, by omega, by simp, by simp⟩
  · rw [shp_one] at hi
    have key : ∀ i, i < len → ∃ q : (List Int) × (Option Addr) × Nat, W.cell? (a.add i) = some (.slice q.2.1 q.1.length q.2.2) ∧ Ints .i64 W q.2.1 q.1 ∧ q.1.length ≤ q.2.2 ∧ q.2.2 ≤ 9223372036854775807 ∧ q.1.length ≤ 1048576 ∧ ∀ z ∈ q.1, -9223372036854775808 ≤ z ∧ z ≤ 9223372036854775807 := fun i hil => by
      obtain ⟨cs', m, y, hc, ht, hw⟩ := hi i hil
      obtain ⟨_, hlen, hat⟩ := World.cells?_some hc
      obtain ⟨v, rfl⟩ := one_list hlen
      obtain ⟨A, c, zs, rfl, h1, h2⟩ := nums_open Tryz.underlying23 ht hw
      refine ⟨(zs, A, c), ?_, h1, h2⟩
      have := hat 0 (by omega)
      rw [Nat.mul_one] at this
      simpa [Addr.add] using this
    obtain ⟨L, hL, hq⟩ := choose_list key
    refine ⟨some a, cap, L.map (·.1), by simp [hL], fun j hj => ?_, by simpa [hL] using hl, by unfold maxLen at hm; omega, by simp [hL]; exact hb, fun s hs => ?_⟩
    · rw [List.length_map] at hj
      obtain ⟨h1, h2, h3, h4, _⟩ := hq j hj
      obtain ⟨h0, _⟩ := hq 0 (by omega)
      obtain ⟨b, off, rfl⟩ := addr_lit (show W.cell? a = _ by simpa [Addr.add] using h0)
      rw [add_plain'] at h1
      rw [List.getElem_map]
      exact ⟨b, off, _, _, rfl, World.block_lt_of_cell? _ _ h1, h1, h2, h3, h4⟩
    · obtain ⟨q, hqm, rfl⟩ := List.mem_map.1 hs
      obtain ⟨i, hi, rfl⟩ := List.getElem_of_mem hqm
      exact (hq i hi).2.2.2.2

def OpD.inR (o : OpD) : Prop := o.wide ∧ ∀ z ∈ o.s, -9223372036854775808 ≤ z ∧ z ≤ 9223372036854775807
/-- All numbers are an int's, and all rows could be in memory. -/
def NodeD.fits (v : NodeD) : Prop := v.op.wide ∧ v.op.s.length ≤ 1048576 ∧ v.ins.length ≤ 1048576 ∧ v.p.length ≤ 1048576 ∧ (∀ s ∈ v.p, s.length ≤ 1048576) ∧
  (∀ z ∈ v.op.s, -9223372036854775808 ≤ z ∧ z ≤ 9223372036854775807) ∧ (∀ z ∈ v.ins, -9223372036854775808 ≤ z ∧ z ≤ 9223372036854775807) ∧ ∀ s ∈ v.p, ∀ z ∈ s, -9223372036854775808 ≤ z ∧ z ≤ 9223372036854775807
def NetD.fits (n : NetD) : Prop := n.inn.length ≤ 1048576 ∧ n.nodes.length ≤ 1048576 ∧ (∀ z ∈ n.inn, -9223372036854775808 ≤ z ∧ z ≤ 9223372036854775807) ∧ ∀ v ∈ n.nodes, v.fits

theorem node_under : Tryz.prog.underlying 67 = some (.struct (Tryz.prog.fieldsOf 67)) := by kernel_rfl
theorem node_three : (Tryz.prog.fieldsOf 67).size = 3 := by kernel_rfl
theorem node_types : (Tryz.prog.fieldsOf 67).toList.map (·.type) = [64, 22, 65] := by kernel_rfl
theorem node_f0 : ((Tryz.prog.fieldsOf 67)[0]?).map (fun f => (f.type, f.offset, Tryz.prog.cellsOf f.type)) = some (64, 0, 8) := by kernel_rfl
theorem node_f1 : ((Tryz.prog.fieldsOf 67)[1]?).map (fun f => (f.type, f.offset, Tryz.prog.cellsOf f.type)) = some (22, 8, 1) := by kernel_rfl
theorem node_f2 : ((Tryz.prog.fieldsOf 67)[2]?).map (fun f => (f.type, f.offset, Tryz.prog.cellsOf f.type)) = some (65, 9, 1) := by kernel_rfl
theorem op_under : Tryz.prog.underlying 64 = some (.struct (Tryz.prog.fieldsOf 64)) := by kernel_rfl
theorem op_eight : (Tryz.prog.fieldsOf 64).size = 8 := by kernel_rfl
theorem op_types : (Tryz.prog.fieldsOf 64).toList.map (·.type) = [3, 62, 3, 3, 3, 3, 3, 23] := by kernel_rfl
theorem op_f0 : ((Tryz.prog.fieldsOf 64)[0]?).map (fun f => (f.type, f.offset, Tryz.prog.cellsOf f.type)) = some (3, 0, 1) := by kernel_rfl
theorem op_f1 : ((Tryz.prog.fieldsOf 64)[1]?).map (fun f => (f.type, f.offset, Tryz.prog.cellsOf f.type)) = some (62, 1, 1) := by kernel_rfl
theorem op_f2 : ((Tryz.prog.fieldsOf 64)[2]?).map (fun f => (f.type, f.offset, Tryz.prog.cellsOf f.type)) = some (3, 2, 1) := by kernel_rfl
theorem op_f3 : ((Tryz.prog.fieldsOf 64)[3]?).map (fun f => (f.type, f.offset, Tryz.prog.cellsOf f.type)) = some (3, 3, 1) := by kernel_rfl
theorem op_f4 : ((Tryz.prog.fieldsOf 64)[4]?).map (fun f => (f.type, f.offset, Tryz.prog.cellsOf f.type)) = some (3, 4, 1) := by kernel_rfl
theorem op_f5 : ((Tryz.prog.fieldsOf 64)[5]?).map (fun f => (f.type, f.offset, Tryz.prog.cellsOf f.type)) = some (3, 5, 1) := by kernel_rfl
theorem op_f6 : ((Tryz.prog.fieldsOf 64)[6]?).map (fun f => (f.type, f.offset, Tryz.prog.cellsOf f.type)) = some (3, 6, 1) := by kernel_rfl
theorem op_f7 : ((Tryz.prog.fieldsOf 64)[7]?).map (fun f => (f.type, f.offset, Tryz.prog.cellsOf f.type)) = some (23, 7, 1) := by kernel_rfl
theorem list3 {α : Type} {l : List α} (h : l.length = 3) : ∃ a b c, l = [a, b, c] := by
  match l, h with
  | [a, b, c], _ => exact ⟨a, b, c, rfl⟩
theorem list8 {α : Type} {l : List α} (h : l.length = 8) : ∃ a b c d e f g i, l = [a, b, c, d, e, f, g, i] := by
  match l, h with
  | [a, b, c, d, e, f, g, i], _ => exact ⟨a, b, c, d, e, f, g, i, rfl⟩
theorem list10 {α : Type} {l : List α} (h : l.length = 10) : ∃ a b c d e f g i j k, l = [a, b, c, d, e, f, g, i, j, k] := by
  match l, h with
  | [a, b, c, d, e, f, g, i, j, k], _ => exact ⟨a, b, c, d, e, f, g, i, j, k, rfl⟩
set_option maxRecDepth 100000 in
/-- An op's cells. -/
theorem op_open {H : Type} {enc : TypeId × Value → H} {W : World} {base : Nat} {spare : Nat → Bool} {held : Bool} {fuel : Nat} {v0 v1 v2 v3 v4 v5 v6 v7 : Value} {x : DataW H × List MemPlace}
    (h : DataW.trod enc Tryz.prog W base spare held fuel 64 [v0, v1, v2, v3, v4, v5, v6, v7] = some x) (hz : Rows.uptoBulk x.1 ≤ 1048576) :
    ∃ (o : OpD) (S : Option Addr) (c : Nat), v0 = .int .i64 o.kind ∧ v1 = .int .i64 o.k ∧ v2 = .int .i64 o.width ∧ v3 = .int .i64 o.step ∧ v4 = .int .i64 o.side ∧ v5 = .int .i64 o.frm ∧ v6 = .int .i64 o.to ∧ v7 = .slice S o.s.length c ∧
      Ints .i64 W S o.s ∧ o.s.length ≤ c ∧ c ≤ 9223372036854775807 ∧ o.s.length ≤ 1048576 ∧ o.wide ∧ ∀ z ∈ o.s, -9223372036854775808 ≤ z ∧ z ≤ 9223372036854775807 := by
  obtain ⟨ys, n, _, hx, _, hlen, hg⟩ := DataW.trod_struct op_under h
  rw [op_eight] at hlen
  obtain ⟨y0, y1, y2, y3, y4, y5, y6, y7, rfl⟩ := list8 hlen
  rw [hx] at hz
  obtain ⟨f0, e0, t0⟩ := Option.map_eq_some_iff.1 op_f0
  simp only [Prod.mk.injEq] at t0
  have h0 := hg 0 f0 e0
  rw [t0.2.2, t0.2.1, t0.1] at h0
  simp at h0
  obtain ⟨f1, e1, t1⟩ := Option.map_eq_some_iff.1 op_f1
  simp only [Prod.mk.injEq] at t1
  have h1 := hg 1 f1 e1
  rw [t1.2.2, t1.2.1, t1.1] at h1
  simp at h1
  obtain ⟨f2, e2, t2⟩ := Option.map_eq_some_iff.1 op_f2
  simp only [Prod.mk.injEq] at t2
  have h2 := hg 2 f2 e2
  rw [t2.2.2, t2.2.1, t2.1] at h2
  simp at h2
  obtain ⟨f3, e3, t3⟩ := Option.map_eq_some_iff.1 op_f3
  simp only [Prod.mk.injEq] at t3
  have h3 := hg 3 f3 e3
  rw [t3.2.2, t3.2.1, t3.1] at h3
  simp at h3
  obtain ⟨f4, e4, t4⟩ := Option.map_eq_some_iff.1 op_f4
  simp only [Prod.mk.injEq] at t4
  have h4 := hg 4 f4 e4
  rw [t4.2.2, t4.2.1, t4.1] at h4
  simp at h4
  obtain ⟨f5, e5, t5⟩ := Option.map_eq_some_iff.1 op_f5
  simp only [Prod.mk.injEq] at t5
  have h5 := hg 5 f5 e5
  rw [t5.2.2, t5.2.1, t5.1] at h5
  simp at h5
  obtain ⟨f6, e6, t6⟩ := Option.map_eq_some_iff.1 op_f6
  simp only [Prod.mk.injEq] at t6
  have h6 := hg 6 f6 e6
  rw [t6.2.2, t6.2.1, t6.1] at h6
  simp at h6
  obtain ⟨f7, e7, t7⟩ := Option.map_eq_some_iff.1 op_f7
  simp only [Prod.mk.injEq] at t7
  have h7 := hg 7 f7 e7
  rw [t7.2.2, t7.2.1, t7.1] at h7
  simp at h7
  have hz7 : Rows.uptoBulk y7.1 ≤ 1048576 := by simp [Rows.uptoBulk, Rows.uptoBulkAll] at hz; omega
  obtain ⟨x0, q0, _, w0⟩ := DataW.trod_int Tryz.underlying3 h0
  simp at q0
  subst q0
  obtain ⟨x1, q1, _, w1⟩ := DataW.trod_int Tryz.underlying62 h1
  simp at q1
  subst q1
  obtain ⟨x2, q2, _, w2⟩ := DataW.trod_int Tryz.underlying3 h2
  simp at q2
  subst q2
  obtain ⟨x3, q3, _, w3⟩ := DataW.trod_int Tryz.underlying3 h3
  simp at q3
  subst q3
  obtain ⟨x4, q4, _, w4⟩ := DataW.trod_int Tryz.underlying3 h4
  simp at q4
  subst q4
  obtain ⟨x5, q5, _, w5⟩ := DataW.trod_int Tryz.underlying3 h5
  simp at q5
  subst q5
  obtain ⟨x6, q6, _, w6⟩ := DataW.trod_int Tryz.underlying3 h6
  simp at q6
  subst q6
  obtain ⟨S, c, zs, rfl, hI, h1, h2, h3, h4⟩ := nums_open Tryz.underlying23 h7 hz7
  refine ⟨⟨x0, x1, x2, x3, x4, x5, x6, zs⟩, S, c, rfl, rfl, rfl, rfl, rfl, rfl, rfl, rfl, hI, h1, h2, h3, fun z hz => ?_, h4⟩
  simp at hz
  rcases hz with rfl | rfl | rfl | rfl | rfl | rfl | rfl
  · exact wf_bd w0
  · exact wf_bd w1
  · exact wf_bd w2
  · exact wf_bd w3
  · exact wf_bd w4
  · exact wf_bd w5
  · exact wf_bd w6

/-- What a node's cells read as. -/
structure NodeQ where
  v : NodeD
  S : Option Addr
  c : Nat
  I : Option Addr
  d : Nat
  Q : Option Addr
  q : Nat
instance : Inhabited NodeQ := ⟨⟨Nt.none_, none, 0, none, 0, none, 0⟩⟩
def NodeQ.cells (x : NodeQ) : List Value := [.int .i64 x.v.op.kind, .int .i64 x.v.op.k, .int .i64 x.v.op.width, .int .i64 x.v.op.step, .int .i64 x.v.op.side, .int .i64 x.v.op.frm, .int .i64 x.v.op.to, .slice x.S x.v.op.s.length x.c, .slice x.I x.v.ins.length x.d, .slice x.Q x.v.p.length x.q]
def NodeQ.R (x : NodeQ) (W : World) : Prop := (Ints .i64 W x.S x.v.op.s ∧ x.v.op.s.length ≤ x.c ∧ x.c ≤ 9223372036854775807) ∧ (Ints .i64 W x.I x.v.ins ∧ x.v.ins.length ≤ x.d ∧ x.d ≤ 9223372036854775807) ∧ (Shps W x.Q x.v.p ∧ x.v.p.length ≤ x.q ∧ x.q ≤ 9223372036854775807)
set_option maxRecDepth 100000 in
theorem node_open {H : Type} {enc : TypeId × Value → H} {W : World} {base : Nat} {spare : Nat → Bool} {held : Bool} {fuel : Nat} {cs : List Value} {x : DataW H × List MemPlace} (hcs : cs.length = 10)
    (h : DataW.trod enc Tryz.prog W base spare held fuel 67 cs = some x) (hz : Rows.uptoBulk x.1 ≤ 1048576) :
    ∃ q : NodeQ, cs = q.cells ∧ q.R W ∧ q.v.fits := by
  obtain ⟨v0, v1, v2, v3, v4, v5, v6, v7, v8, v9, rfl⟩ := list10 hcs
  obtain ⟨ys, n, _, hx, _, hlen, hg⟩ := DataW.trod_struct node_under h
  rw [node_three] at hlen
  obtain ⟨y0, y1, y2, rfl⟩ := list3 hlen
  rw [hx] at hz
  obtain ⟨f0, e0, t0⟩ := Option.map_eq_some_iff.1 node_f0
  simp only [Prod.mk.injEq] at t0
  have h0 := hg 0 f0 e0
  rw [t0.2.2, t0.2.1, t0.1] at h0
  simp at h0
  obtain ⟨f1, e1, t1⟩ := Option.map_eq_some_iff.1 node_f1
  simp only [Prod.mk.injEq] at t1
  have h1 := hg 1 f1 e1
  rw [t1.2.2, t1.2.1, t1.1] at h1
  simp at h1
  obtain ⟨f2, e2, t2⟩ := Option.map_eq_some_iff.1 node_f2
  simp only [Prod.mk.injEq] at t2
  have h2 := hg 2 f2 e2
  rw [t2.2.2, t2.2.1, t2.1] at h2
  simp at h2
  have hz0 : Rows.uptoBulk y0.1 ≤ 1048576 := by simp [Rows.uptoBulk, Rows.uptoBulkAll] at hz; omega
  have hz1 : Rows.uptoBulk y1.1 ≤ 1048576 := by simp [Rows.uptoBulk, Rows.uptoBulkAll] at hz; omega
  have hz2 : Rows.uptoBulk y2.1 ≤ 1048576 := by simp [Rows.uptoBulk, Rows.uptoBulkAll] at hz; omega
  obtain ⟨o, S, c, rfl, rfl, rfl, rfl, rfl, rfl, rfl, rfl, a1, a2, a3, a4, a5, a6⟩ := op_open h0 hz0
  obtain ⟨I, d, is, rfl, b1, b2, b3, b4, b5⟩ := nums_open Tryz.underlying22 h1 hz1
  obtain ⟨Q, q, ps, rfl, c1, c2, c3, c4, c5⟩ := shps_open h2 hz2
  exact ⟨⟨⟨o, is, ps⟩, S, c, I, d, Q, q⟩, rfl, ⟨⟨a1, a2, a3⟩, ⟨b1, b2, b3⟩, c1, c2, c3⟩, a5, a4, b4, c4, fun s hs => (c5 s hs).1, a6, b5, fun s hs => (c5 s hs).2⟩
/-- A slice of nodes. -/
theorem nodes_open {H : Type} {enc : TypeId × Value → H} {W : World} {base : Nat} {spare : Nat → Bool} {held : Bool} {fuel : Nat} {v : Value} {x : DataW H × List MemPlace}
    (h : DataW.trod enc Tryz.prog W base spare held fuel 24 [v] = some x) (hz : Rows.uptoBulk x.1 ≤ 1048576) :
    ∃ A c ns, v = .slice A ns.length c ∧ Nodes W A ns ∧ ns.length ≤ c ∧ c ≤ 9223372036854775807 ∧ ns.length ≤ 1048576 ∧ ∀ v ∈ ns, v.fits := by
  rcases slice_bulk Tryz.underlying24 h hz with rfl | ⟨a, len, cap, rfl, hl, hm, hb, hi⟩
  · exact ⟨none, 0, [], rfl, fun j hj => absurd hj (by simp), by simp, by omega, by simp, by simp⟩
  · rw [node_cells] at hi
    have key : ∀ i, i < len → ∃ q : NodeQ, (∀ j, j < 10 → W.cell? ((a.add (i * 10)).add j) = q.cells[j]?) ∧ q.R W ∧ q.v.fits := fun i hil => by
      obtain ⟨cs', m, y, hc, ht, hw⟩ := hi i hil
      obtain ⟨_, hlen, hat⟩ := World.cells?_some hc
      obtain ⟨q, rfl, h1, h2⟩ := node_open hlen ht hw
      exact ⟨q, hat, h1, h2⟩
    obtain ⟨L, hL, hq⟩ := choose_list key
    refine ⟨some a, cap, L.map (·.v), by simp [hL], fun j hj => ?_, by simpa [hL] using hl, by unfold maxLen at hm; omega, by simp [hL]; exact hb, fun s hs => ?_⟩
    · rw [List.length_map] at hj
      obtain ⟨h1, ⟨r1, r2, r3⟩, _⟩ := hq j hj
      obtain ⟨h0, _⟩ := hq 0 (by omega)
      have h00 := h0 0 (by omega)
      obtain ⟨b, off, rfl⟩ := addr_lit (v := .int .i64 L[0].v.op.kind) (show W.cell? a = _ by simpa [Addr.add, NodeQ.cells] using h00)
      simp only [add_plain'] at h1
      rw [List.getElem_map]
      refine ⟨b, off, _, _, _, _, _, _, rfl, World.block_lt_of_cell? _ _ (h1 0 (by omega)), h1 0 (by omega), h1 1 (by omega), h1 2 (by omega), h1 3 (by omega), h1 4 (by omega), h1 5 (by omega), h1 6 (by omega), h1 7 (by omega), h1 8 (by omega), h1 9 (by omega), r1, r2, r3⟩
    · obtain ⟨q, hqm, rfl⟩ := List.mem_map.1 hs
      obtain ⟨i, hi, rfl⟩ := List.getElem_of_mem hqm
      exact (hq i hi).2.2
theorem net_cells : Tryz.prog.cellsOf 26 = 2 := by kernel_rfl
theorem net_under : Tryz.prog.underlying 26 = some (.struct (Tryz.prog.fieldsOf 26)) := by kernel_rfl
theorem net_two : (Tryz.prog.fieldsOf 26).size = 2 := by kernel_rfl
theorem net_types : (Tryz.prog.fieldsOf 26).toList.map (·.type) = [23, 24] := by kernel_rfl
theorem net_f0 : ((Tryz.prog.fieldsOf 26)[0]?).map (fun f => (f.type, f.offset, Tryz.prog.cellsOf f.type)) = some (23, 0, 1) := by kernel_rfl
theorem net_f1 : ((Tryz.prog.fieldsOf 26)[1]?).map (fun f => (f.type, f.offset, Tryz.prog.cellsOf f.type)) = some (24, 1, 1) := by kernel_rfl
theorem list2 {α : Type} {l : List α} (h : l.length = 2) : ∃ a b, l = [a, b] := by
  match l, h with
  | [a, b], _ => exact ⟨a, b, rfl⟩
set_option maxRecDepth 100000 in
/-- A net. -/
theorem net_open {H : Type} {enc : TypeId × Value → H} {W : World} {r : Reach} {b0 base : Nat} {spare : Nat → Bool} {held : Bool} {v : Value} {d : DataW H} {p : List MemPlace}
    (hv : Value.okWide Tryz.prog W r b0 26 v) (h : DataW.Trod enc Tryz.prog W base spare held 26 v d p) (hz : Rows.uptoBulk d ≤ 1048576) :
    ∃ A N c1 c2 n, v = .agg #[.slice A n.inn.length c1, .slice N n.nodes.length c2] ∧ n.inn.length ≤ c1 ∧ c1 ≤ 9223372036854775807 ∧ n.nodes.length ≤ c2 ∧ c2 ≤ 9223372036854775807 ∧ NetR W A N n ∧ n.fits := by
  obtain ⟨cs, rfl, hsz⟩ := okWide_struct net_under hv
  obtain ⟨l⟩ := cs
  match l, hsz.trans net_cells with
  | [v0, v1], _ =>
    obtain ⟨fuel, hf⟩ := h
    obtain ⟨ys, n, _, hx, _, hlen, hg⟩ := DataW.trod_struct net_under hf
    rw [net_two] at hlen
    obtain ⟨y0, y1, rfl⟩ := list2 hlen
    simp only [Prod.mk.injEq, List.map_cons, List.map_nil] at hx
    obtain ⟨rfl, _⟩ := hx
    obtain ⟨f0, e0, t0⟩ := Option.map_eq_some_iff.1 net_f0
    simp only [Prod.mk.injEq] at t0
    have h0 := hg 0 f0 e0
    rw [t0.2.2, t0.2.1, t0.1] at h0
    simp [Value.cells] at h0
    obtain ⟨f1, e1, t1⟩ := Option.map_eq_some_iff.1 net_f1
    simp only [Prod.mk.injEq] at t1
    have h1 := hg 1 f1 e1
    rw [t1.2.2, t1.2.1, t1.1] at h1
    simp [Value.cells] at h1
    have hz0 : Rows.uptoBulk y0.1 ≤ 1048576 := by simp [Rows.uptoBulk, Rows.uptoBulkAll] at hz; omega
    have hz1 : Rows.uptoBulk y1.1 ≤ 1048576 := by simp [Rows.uptoBulk, Rows.uptoBulkAll] at hz; omega
    obtain ⟨A, c1, zs, rfl, a1, a2, a3, a4, a5⟩ := nums_open Tryz.underlying23 h0 hz0
    obtain ⟨N, c2, ns, rfl, b1, b2, b3, b4, b5⟩ := nodes_open h1 hz1
    exact ⟨A, N, c1, c2, ⟨zs, ns⟩, rfl, a2, a3, b2, b3, ⟨a1, b1⟩, a4, b4, a5, b5⟩
theorem NetD.fits.ok {n : NetD} (h : n.fits) : n.ok :=
  ⟨h.1, h.2.1, fun v hv => by
    obtain ⟨h1, h2, h3, h4, h5, h6, h7, h8⟩ := h.2.2.2 v hv
    exact ⟨h1, h2, h3, h4, h5, h7⟩⟩
end Go.Proofs.YtnffjfjhbjeaiaaGreatDoor
