/- Lemmas for the statements of this seat: contracts of functions and the plain laws. -/
import Derived.Test.YtbnnpkcfifejmabGreatZ13
set_option linter.unusedVariables false
namespace Go.Proofs.YtbnnpkcfifejmabGreat
open Go.RowKit
def RefCheckP (n : NetD) (w : World) (e : Ending) (w' : World) : Prop :=
 Below w.heap.size w w' ∧ ((Nt.check n = 0 ∧ ∃ g, e = .returned (.tuple #[.slice (some ⟨g, 0, none⟩) (n.nodes.length + 1) (n.nodes.length + 1), .int .i64 (Nt.loss n.nodes), .int .i64 0]) ∧ w.heap.size ≤ g ∧ ShpRow w' g 22 (Nt.shapes n)) ∨
  (Nt.check n ≠ 0 ∧ e = .returned (.tuple #[.slice none 0 0, .int .i64 0, .int .i64 (Nt.check n)])))
theorem RefCheckP.err {n : NetD} {w w' : World} {k : Int} (h : Nt.check n = k) (hk : k ≠ 0) (hb : Below w.heap.size w w') : RefCheckP n w (.returned (.tuple #[.slice none 0 0, .int .i64 0, .int .i64 k])) w' :=
 ⟨hb, .inr (by rw [h]; exact ⟨hk, rfl⟩)⟩
theorem ShpRow.apart {w : World} {g : Nat} {t : TypeId} {sh : List (List Int)} {S : Option Addr} {s : List Int} (h : ShpRow w g t sh) (hI : Ints .i64 w S s) (hs : 0 < s.length) : ∀ a, S = some a → a.block ≠ g := by
 intro a ha hg
 obtain ⟨b, off, e, hl, hc⟩ := hI 0 hs
 rw [ha] at e
 injection e with e
 subst e
 simp at hg
 subst hg
 obtain ⟨vs, hl2, hk, hv⟩ := h
 rw [Nat.add_zero, hk.cell off] at hc
 by_cases ho : off < sh.length
 ·obtain ⟨S', c', e1, _⟩ := hv off ho
  simp at hc
  rw [e1] at hc
  simp at hc
 ·rw [Array.getElem?_eq_none (by simp; omega)] at hc
  cases hc
theorem Nt.count_used (ns : List NodeD) (id : Int) : (Nt.count ns id = 0) ↔ Nt.isUsed ns id = false := by
 unfold Nt.count Nt.isUsed
 rw [List.length_eq_zero_iff, List.filter_eq_nil_iff, List.any_eq_false]
set_option maxRecDepth 20000 in
set_option maxHeartbeats 16000000 in
theorem ref11_check (A N : Option Addr) (c d : Nat) (n : NetD) (w : World) (hok : n.ok) (hR : NetR w A N n) (hd : n.nodes.length ≤ d) (hc : n.inn.length ≤ c) (hcm : c ≤ 9223372036854775807) :
  Calls Tryz.prog 13 #[.agg #[.slice A n.inn.length c, .slice N n.nodes.length d]] w (RefCheckP n w) := by
 obtain ⟨i1, hj, hy0, hy1, hy2⟩ := info_parts shpsT_info
 have hnl := hok.2.1
 have hil := hok.1
 have hb0 : Below w.heap.size w (w.alloc (.cells #[.slice A n.inn.length c, .slice N n.nodes.length d] 57)) := (Below.refl _ _).alloc (Nat.le_refl _) _
 have hk0 := Blk.new w 57 #[.slice A n.inn.length c, .slice N n.nodes.length d]
 have hR0 := hR.below hb0 (Nat.le_refl _)
 by_cases hmany : n.nodes.length < 1 ∨ 512 < n.nodes.length
 ·have HC := Lib.hid (Nt.check_many hmany)
  have HR := Lib.hid hR
  have Hok := Lib.hid hok
  have HR0 := Lib.hid hR0
  have Hk0 := Lib.hid hk0
  clear hR hok hR0 hk0
  rcases hmany with h | h
  ·have d1 : decide ((n.nodes.length : Int) < 1) = true := by simp; omega
   go_enter Tryz.func13, Tryz.ntmps13
   go_wp2_with fail
   go_ret3
   exact RefCheckP.err HC.out (by omega) hb0
  ·have d1 : decide ((n.nodes.length : Int) < 1) = false := by simp; omega
   have d2 : decide ((512 : Int) < (n.nodes.length : Int)) = true := by simp; omega
   go_enter Tryz.func13, Tryz.ntmps13
   go_wp2_with fail
   go_ret3
   exact RefCheckP.err HC.out (by omega) hb0
 ·have d1 : decide ((n.nodes.length : Int) < 1) = false := by simp; omega
  have d2 : decide ((512 : Int) < (n.nodes.length : Int)) = false := by simp; omega
  have h512 : n.nodes.length ≤ 512 := by omega
  have hone : 1 ≤ n.nodes.length := by omega
  have HR := Lib.hid hR
  have Hok := Lib.hid hok
  have HR0 := Lib.hid hR0
  have Hk0 := Lib.hid hk0
  have Hmany := Lib.hid hmany
  clear hR hok hR0 hk0 hmany
  go_enter Tryz.func13, Tryz.ntmps13
  go_wp2_with fail
  have hx := Hk0.out
  generalize w.alloc (.cells #[.slice A n.inn.length c, .slice N n.nodes.length d] 57) = w1 at *
  have hbox := Hk0.out
  refine (ref03_right A c n.inn _ (by omega) HR0.out.1).mono ?_
  rintro e w2 ⟨rfl, rfl⟩
  have x1 : w1.cell? ⟨w.heap.size, 1, none⟩ = some (.slice N n.nodes.length d) := by rw [hbox.cell]; rfl
  clear d1 d2 hx
  by_cases hin : Sh.right n.inn = true
  rotate_left
  ·have hin' : Sh.right n.inn = false := by simpa using hin
   have HC := Lib.hid (Nt.check_in Hmany.out hin')
   rw [hin']
   have Hbox := Lib.hid hbox
   clear hbox
   clear hin hin'
   go_wp2_with fail
   go_ret3
   exact RefCheckP.err HC.out (by omega) hb0
  ·have Hin := Lib.hid hin
   rw [hin]
   have Hbox := Lib.hid hbox
   clear hbox
   clear hin
   go_wp2_with fail
   clear x1 HR0 Hk0
   go_loopw [5] (fun i wr => ∃ k : Nat, k ≤ n.nodes.length ∧ i = .int .i64 k ∧ Blk wr w.heap.size 57 #[.slice A n.inn.length c, .slice N n.nodes.length d] ∧ Below w.heap.size w wr ∧ lookBad n k) (fun i _ => n.nodes.length - (intOf i).toNat)
   case atStart => exact ⟨0, Nat.zero_le _, rfl, Hbox.out, hb0, fun j hj h => by omega⟩
   case round =>
    clear Hbox hb0
    obtain ⟨k, hk, rfl, hbox, hbw, hbad⟩ := hrel
    have hsl := hbox.lt
    have x1 : wr.cell? ⟨w.heap.size, 1, none⟩ = some (.slice N n.nodes.length d) := by rw [hbox.cell]; rfl
    by_cases hlt : k < n.nodes.length
    ·obtain ⟨b, off, S, sc, J, ic, Q, qc, rfl, hNA, -, hI, -⟩ := HR.out.2.at_ hlt
     have hnok := Hok.out.2.2 _ (List.getElem_mem hlt)
     have hb21 := fun h => Nt.bads_op (n := n.nodes.length) hlt hbad h
     have hb11 := fun h m (hm : m < n.nodes[k].ins.length) h2 => Nt.bads_in (n := n.nodes.length) hlt hbad h (m := m) hm h2
     have hnext : Od.right n.nodes[k].op = true → n.nodes[k].ins.all (fun i => decide (0 ≤ i ∧ i ≤ n.nodes.length)) = true → lookBad n (k + 1) := fun h1 h2 j hj hjk => by
      by_cases e : j = k
      ·subst e; exact ⟨h1, h2⟩
      ·exact hbad j hj (by omega)
     have hil := hnok.2.2.1
     have hsl2 := hnok.2.1
     generalize n.nodes[k] = v at *
     have hNw := hNA.below hbw
     obtain ⟨⟨y0, y1, y2, y3, y4, y5, y6, y7, y8, y9⟩, -⟩ := hNA.below hbw
     have hcall := ref10_right v.op S sc wr (by omega)
     rw [Od.ref_right] at hcall
     have Hbox := Lib.hid hbox
     have HNA := Lib.hid hNA
     have Hnok := Lib.hid hnok
     have Hb21 := Lib.hid hb21
     have Hb11 := Lib.hid hb11
     have Hnext := Lib.hid hnext
     have HNw := Lib.hid hNw
     have Hbad := Lib.hid hbad
     have Hcall := Lib.hid hcall
     clear hbox hNA hnok hb21 hb11 hnext hNw hbad hcall
     go_wp2_with fail
     refine (Hcall.out).mono ?_
     rintro e w2 ⟨rfl, hb2⟩
     have hbx2 := hbw.trans (hb2.mono hbw.size)
     have hbox2 := Hbox.out.below hb2 hsl
     clear x1
     have x1 : w2.cell? ⟨w.heap.size, 1, none⟩ = some (.slice (some ⟨b, off, none⟩) n.nodes.length d) := by rw [hbox2.cell]; rfl
     have hN2 := HNw.out.below hb2
     obtain ⟨⟨-, -, -, -, -, -, -, -, z8, -⟩, -, hIJ, -⟩ := hN2
     clear y0 y1 y2 y3 y4 y5 y6 y7 y8 y9 Hbox Hcall
     by_cases hor : Od.right v.op = true
     rotate_left
     ·have hor' : Od.right v.op = false := by simpa using hor
      have hc := Hb21.out hor'
      have HC := Lib.hid ((Nt.check_bads Hmany.out Hin.out (by rw [hc]; omega)).trans hc)
      rw [hor']
      have Hbox2 := Lib.hid hbox2
      have HIJ := Lib.hid hIJ
      clear hbox2 hIJ
      clear hor hc hor'
      go_wp2_with fail
      go_ret3
      exact RefCheckP.err HC.out (by omega) hbx2
     ·have Hor := Lib.hid hor
      rw [hor]
      have Hbox2 := Lib.hid hbox2
      have HIJ := Lib.hid hIJ
      clear hbox2 hIJ
      clear hor
      go_wp2_with fail
      go_loopw [6] (fun i wx => ∃ m q : Nat, m ≤ v.ins.length ∧ i = .int .i64 m ∧ (∀ j (hj : j < v.ins.length), j < m → 0 ≤ v.ins[j] ∧ v.ins[j] ≤ n.nodes.length) ∧ wx = w2.drewN q) (fun i _ => v.ins.length - (intOf i).toNat)
      case atStart => exact ⟨0, 0, Nat.zero_le _, rfl, (fun j hj h => by omega), rfl⟩
      case round =>
       obtain ⟨m, q, hm, rfl, hall, rfl⟩ := hrel
       by_cases hlm : m < v.ins.length
       ·obtain ⟨b1, off1, rfl, -, hc⟩ := HIJ.out m hlm
        rw [getD_at hlm] at hc
        have hbd := Hb11.out Hor.out m hlm
        have hnx : (0 ≤ v.ins[m] ∧ v.ins[m] ≤ n.nodes.length) → ∀ j (hj : j < v.ins.length), j < m + 1 → 0 ≤ v.ins[j] ∧ v.ins[j] ≤ n.nodes.length := fun h j hj hjm => by
         by_cases e : j = m
         ·subst e; exact h
         ·exact hall j hj (by omega)
        generalize v.ins[m] = u at *
        have m0 : (0 : Int) ≤ (m : Int) := by omega
        have m1 : (m : Int) < (v.ins.length : Int) := by omega
        have k0 : (0 : Int) ≤ (k : Int) := by omega
        have k1 : (k : Int) < (n.nodes.length : Int) := by omega
        by_cases hu : 0 ≤ u ∧ u ≤ n.nodes.length
        ·have HN := Lib.hid (hnx hu)
         have e1 : decide (u < 0) = false := by simp; omega
         have e2 : decide ((n.nodes.length : Int) < u) = false := by simp; omega
         clear hu hbd
         have Hnx := Lib.hid hnx
         have Hall := Lib.hid hall
         clear hnx hall
         go_wp2_with fail
         go_quiet (fail)
         go_wp2_with fail
         go_roundw
         case rel => exact ⟨m + 1, _, by omega, by go_num, HN.out, by first | rfl | exact World.drewN_drewN _ _ _⟩
         case measure => simp [intOf]; omega
        ·have hc2 := hbd hu
         have HC := Lib.hid ((Nt.check_bads Hmany.out Hin.out (by rw [hc2]; omega)).trans hc2)
         clear hc2 hbd
         have Hnx := Lib.hid hnx
         have Hall := Lib.hid hall
         clear hnx hall
         by_cases hneg : u < 0
         ·have e1 : decide (u < 0) = true := by simpa using hneg
          clear hu
          go_wp2_with fail
          go_quiet (fail)
          go_wp2_with fail
          go_ret3
          exact RefCheckP.err HC.out (by omega) (by first | exact Bdrawn2 hbx2 _ _ | exact Bdrawn hbx2 _)
         ·have e1 : decide (u < 0) = false := by simpa using hneg
          have e2 : decide ((n.nodes.length : Int) < u) = true := by simp; omega
          clear hu
          go_wp2_with fail
          go_quiet (fail)
          go_wp2_with fail
          go_ret3
          exact RefCheckP.err HC.out (by omega) (by first | exact Bdrawn2 hbx2 _ _ | exact Bdrawn hbx2 _)
       ·obtain rfl : m = v.ins.length := by omega
        have HN := Lib.hid (Hnext.out Hor.out (List.all_eq_true.2 fun i hi => by obtain ⟨j, hj, rfl⟩ := List.getElem_of_mem hi; simpa using hall j hj hj))
        have Hall := Lib.hid hall
        clear hall
        go_wp2_with fail
        go_roundw
        case rel => exact ⟨k + 1, by omega, by go_num, Hbox2.out.drewN q, Bdrawn hbx2 q, HN.out⟩
        case measure => simp [intOf]; omega
    ·obtain rfl : k = n.nodes.length := by omega
     have hb0 : Nt.bads n.nodes.length n.nodes = 0 := Nt.bads_none hbad
     have hins : ∀ v ∈ n.nodes, ∀ i ∈ v.ins, 0 ≤ i ∧ i ≤ n.nodes.length := fun v hv => (Nt.bads_all hb0 v hv).2
     have hrop : ∀ v ∈ n.nodes, Od.right v.op = true := fun v hv => (Nt.bads_all hb0 v hv).1
     have x0 : wr.cell? ⟨w.heap.size, 0, none⟩ = some (.slice A n.inn.length c) := by rw [hbox.cell]; rfl
     have Hbad := Lib.hid hbad
     have Hbox := Lib.hid hbox
     have Hb0 := Lib.hid hb0
     have Hins := Lib.hid hins
     have Hrop := Lib.hid hrop
     clear hbad hbox hb0 hins hrop
     go_wp2_with fail
     refine (ref11_order A N c d n _ Hok.out (HR.out.below hbw (Nat.le_refl _))).mono ?_
     rintro e w2 ⟨O, oc, rfl, hO, hoc, hoc2, hb2⟩
     have hbw2 := hbw.trans (hb2.mono hbw.size)
     have hbox2 := Hbox.out.below hb2 Hbox.out.lt
     have hw2l : w.heap.size < w2.heap.size := hbox2.lt
     clear x0 x1
     have x0 : w2.cell? ⟨w.heap.size, 0, none⟩ = some (.slice A n.inn.length c) := by rw [hbox2.cell]; rfl
     have x1 : w2.cell? ⟨w.heap.size, 1, none⟩ = some (.slice N n.nodes.length d) := by rw [hbox2.cell]; rfl
     clear Hbox
     have hole : (Nt.sorted n.nodes).length ≤ n.nodes.length := Kn.order_len_le _ _
     by_cases hcy : (Nt.sorted n.nodes).length = n.nodes.length
     rotate_left
     ·have HC := Lib.hid (Nt.check_cyc Hmany.out Hin.out Hb0.out hcy)
      have e1 : decide (((Nt.sorted n.nodes).length : Int) < (n.nodes.length : Int)) = true := by simp; omega
      have e2 : decide ((Nt.sorted n.nodes).length < n.nodes.length) = true := by simp; omega
      generalize Nt.sorted n.nodes = os at *
      have Hbox2 := Lib.hid hbox2
      have Hcy := Lib.hid hcy
      have HO := Lib.hid hO
      clear hbox2 hcy hO
      go_wp2_with fail
      go_ret3
      exact RefCheckP.err HC.out (by omega) hbw2
     ·have hcheck := fun h5 => Nt.check_lay Hmany.out Hin.out Hb0.out hcy h5
      have hcheck6 := fun h5 h6 => Nt.check_loss Hmany.out Hin.out Hb0.out hcy h5 h6
      have hcheck7 := fun h5 h6 => Nt.check_last Hmany.out Hin.out Hb0.out hcy h5 h6
      have hgoodF := fun h5 : (Nt.lay n.nodes (Nt.start n) (Nt.sorted n.nodes)).2 = 0 => Nt.lay_good Hin.out (Nt.sorted n.nodes).length (Nat.le_refl _) (by rw [List.take_length]; exact h5)
      rw [List.take_length] at hgoodF
      have hfull : ∀ u, u ∈ Nt.sorted n.nodes ↔ 1 ≤ u ∧ u ≤ n.nodes.length := Kn.order_full (I := Nt.insF n.nodes) (n := n.nodes.length) hcy
      have hshp : (Nt.lay n.nodes (Nt.start n) (Nt.sorted n.nodes)).1 = Nt.shapes n := rfl
      have hrng : ∀ u ∈ Nt.sorted n.nodes, 1 ≤ u ∧ u ≤ n.nodes.length := Kn.order_rng _ _
      have hbeh : ∀ a b u, Nt.sorted n.nodes = a ++ u :: b → ∀ i ∈ Nt.insF n.nodes u, i = 0 ∨ i ∈ a := fun a b u h => Kn.order_behind _ _ h
      rw [hcy]
      obtain ⟨os, hos⟩ : ∃ os, Nt.sorted n.nodes = os := ⟨_, rfl⟩
      have hshort : ∀ k, k ≤ os.length → ∀ sh, Nt.lay n.nodes (Nt.start n) (os.take k) = (sh, 0) → Nt.Good (os.take k) sh ∧ sh.length = n.nodes.length + 1 := fun k hk sh h => by
       have := lay_short (n := n) Hin.out (k := k) (by rw [hos]; exact hk) (sh := sh) (by rw [hos]; exact h)
       rw [hos] at this
       exact this
      rw [hos] at hcheck hcheck6 hcheck7 hgoodF hfull hshp hO hcy hoc hole hrng hbeh
      rw [hcy] at hoc
      have hAb : ∀ a, A = some a → a.block < w.heap.size := fun a ha => by
       obtain ⟨b, off, e, hl, -⟩ := HR.out.1 0 (right_short Hin.out).1
       rw [ha] at e; injection e with e; subst e; exact hl
      have hInn := HR.out.1.below hbw2 (Nat.le_refl _)
      have e1 : IntKind.i64.wrap ((n.nodes.length : Int) + 1) = ((n.nodes.length + 1 : Nat) : Int) := by rw [IntWalk.i64_in _ (by omega)]; omega
      have Hcheck := Lib.hid hcheck
      have Hcheck6 := Lib.hid hcheck6
      have Hcheck7 := Lib.hid hcheck7
      have HgoodF := Lib.hid hgoodF
      have Hfull := Lib.hid hfull
      have Hshp := Lib.hid hshp
      have Hcy := Lib.hid hcy
      have Hos := Lib.hid hos
      have HO := Lib.hid hO
      have Hbox2 := Lib.hid hbox2
      have Hrng := Lib.hid hrng
      have Hbeh := Lib.hid hbeh
      have Hshort := Lib.hid hshort
      have HAb := Lib.hid hAb
      have HInn := Lib.hid hInn
      clear hcheck hcheck6 hcheck7 hgoodF hfull hshp hcy hos hO hbox2 hrng hbeh hshort hAb hInn
      go_wp2_with (at_make; refine wpList_make_full _ rfl _ _ 52 rfl w2.heap.size 22 i1 (.slice none 0 0) 1 Tryz.underlying52 hj hy0 hy1 _ _ _ _ (n.nodes.length + 1) rfl rfl (by first | rfl | simp | (go_simp; rfl)) (by first | rfl | simp | (go_simp; rfl)) ?b2 ?b3 ?b4 ?_)
      case b2 => rw [hy2]; omega
      case b3 => unfold maxLen; omega
      case b4 => exact Nat.le_refl _
      intro w3 hown hgrow
      have hblk := own_cur hown
      rw [made_one] at hblk
      obtain ⟨g, hg⟩ : ∃ g, w2.heap.size = g := ⟨_, rfl⟩
      have hrow : ShpRow w3 g 22 (List.replicate (n.nodes.length + 1) []) := by rw [← hg]; exact ShpRow.new (by simpa [Blk] using hblk)
      have hb3 : Below w2.heap.size w2 w3 := (Below.refl _ w2).grown hgrow (Nat.le_refl _) (by simp)
      have hbw3 := hbw2.trans (hb3.mono hbw2.size)
      have hbox3 := Hbox2.out.below hb3 hw2l
      have hrow0 := hrow.set_ (i := 0) (HInn.out.below hb3 (Nat.le_refl _)) hc hcm (fun a ha => by have := HAb.out a ha; omega)
      rw [show (List.replicate (n.nodes.length + 1) ([] : List Int)).set 0 n.inn = Nt.start n from rfl] at hrow0
      have hbox4 := hbox3.far (p := ⟨g, 0, none⟩) (by simp; omega) (.slice A n.inn.length c)
      have hbw4 := hbw3.setCell (p := ⟨g, 0, none⟩) (by simp; omega) (.slice A n.inn.length c)
      have hO4 := (HO.out.below hb3 (Nat.le_refl _))
      obtain ⟨S0, c0, z0, -⟩ := hrow.at_ (j := 0) (by simp)
      have f0 : w3.frozen? ⟨g, 0, none⟩ = false := by obtain ⟨vs, _, hk, _⟩ := hrow; exact hk.frozen 0
      have hOb : ∀ a, O = some a → a.block ≠ g := fun a ha => by
       obtain ⟨b, off, e, hl, -⟩ := HO.out 0 (by have := Hcy.out; omega)
       rw [ha] at e; injection e with e; subst e; simp; omega
      have hO5 := hO4.set_far (p := ⟨g, 0, none⟩) hOb (.slice A n.inn.length c)
      clear x0 x1
      have x0 : w3.cell? ⟨w.heap.size, 0, none⟩ = some (.slice A n.inn.length c) := by rw [hbox3.cell]; rfl
      have x1 : w3.cell? ⟨w.heap.size, 1, none⟩ = some (.slice N n.nodes.length d) := by rw [hbox3.cell]; rfl
      rw [hg]
      have hgw : w.heap.size < g := by omega
      have hgne : ¬ w.heap.size = g := by omega
      clear hblk hown hgrow hrow hO4 hbw2 hb2 hbw hg
      have Hrow0 := Lib.hid hrow0
      have Hbox3 := Lib.hid hbox3
      have Hbox4 := Lib.hid hbox4
      have HO5 := Lib.hid hO5
      have HOb := Lib.hid hOb
      clear hrow0 hbox3 hbox4 hO5 hOb
      clear HO HInn
      go_wp2_with fail
      clear z0 f0 x0 x1 hb3 hbw3
      go_loopw [9] (fun i wr => ∃ k : Nat, k ≤ os.length ∧ i = .int .i64 k ∧ Blk wr w.heap.size 57 #[.slice A n.inn.length c, .slice N n.nodes.length d] ∧ Below w.heap.size w wr ∧ Ints .i64 wr O os ∧ ∃ sh, Nt.lay n.nodes (Nt.start n) (os.take k) = (sh, 0) ∧ ShpRow wr g 22 sh) (fun i _ => os.length - (intOf i).toNat)
      case atStart => exact ⟨0, Nat.zero_le _, rfl, Hbox4.out, hbw4, HO5.out, Nt.start n, rfl, Hrow0.out⟩
      case round =>
       obtain ⟨k, hk, rfl, hbox, hbw, hO, sh, hlay, hrow⟩ := hrel
       clear Hrow0 Hbox3 Hbox4 HO5 hbw4
       obtain ⟨hgood, hshl⟩ := Hshort.out k hk sh hlay
       have x1 : wr.cell? ⟨w.heap.size, 1, none⟩ = some (.slice N n.nodes.length d) := by rw [hbox.cell]; rfl
       have hol := Hcy.out
       by_cases hlt : k < os.length
       ·obtain ⟨b, off, rfl, -, hc⟩ := hO k hlt
        rw [getD_at hlt] at hc
        have hr := Hrng.out _ (List.getElem_mem hlt)
        have hsplit : os = os.take k ++ os[k] :: os.drop (k + 1) := by rw [← List.drop_eq_getElem_cons hlt, List.take_append_drop]
        have hbe := Hbeh.out _ _ _ hsplit
        obtain ⟨j, hj'⟩ : ∃ j : Nat, os[k] = (j : Int) + 1 := ⟨(os[k] - 1).toNat, by omega⟩
        have hjl : j < n.nodes.length := by omega
        have hlay' := fun h : (Nt.layStep n.nodes sh os[k]).2 = 0 => Nt.lay_snoc (id := os[k]) hlay h
        have hfail := fun h : (Nt.layStep n.nodes sh os[k]).2 ≠ 0 => Nt.lay_fail (b := os.drop (k + 1)) (id := os[k]) hlay h
        rw [← List.take_succ_eq_append_getElem hlt] at hlay'
        rw [← hsplit] at hfail
        have hst : Nt.layStep n.nodes sh os[k] = Od.shape n.nodes[j].op n.nodes[j].p (Nt.pick sh n.nodes[j].ins) := by unfold Nt.layStep; rw [hj', Nt.node_at hjl]
        have hiF : Nt.insF n.nodes os[k] = n.nodes[j].ins := by unfold Nt.insF; rw [hj', Nt.node_at hjl]
        rw [hst] at hlay' hfail
        rw [hiF] at hbe
        rw [hj'] at hc hlay'
        rw [show ((j : Int) + 1).toNat = j + 1 by omega] at hlay'
        have hnok := Hok.out.2.2 _ (List.getElem_mem hjl)
        have hrv := Hrop.out _ (List.getElem_mem hjl)
        have hinr := Hins.out _ (List.getElem_mem hjl)
        obtain ⟨b1, off1, S, sc, J, ic, Q, qc, rfl, hNA, hs1, hI1, hq1⟩ := HR.out.2.at_ hjl
        have hgr : ∀ i ∈ n.nodes[j].ins, 0 ≤ i ∧ i.toNat < sh.length ∧ Sh.right (sh.getD i.toNat []) = true := fun i hi => ⟨(hinr i hi).1, by have := hinr i hi; omega, hgood i (hbe i hi)⟩
        generalize n.nodes[j] = v at *
        have hNw := hNA.below hbw
        obtain ⟨⟨y0, y1, y2, y3, y4, y5, y6, y7, y8, y9⟩, -⟩ := hNA.below hbw
        have j1 : IntKind.i64.wrap ((j : Int) + 1 - 1) = (j : Int) := by rw [IntWalk.i64_in _ (by omega)]; omega
        have j2 : (j : Int) < n.nodes.length := by omega
        have j0 : (0 : Int) ≤ (j : Int) := by omega
        have k0 : (0 : Int) ≤ (k : Int) := by omega
        have k1 : (k : Int) < (n.nodes.length : Int) := by omega
        have j4 : (0 : Int) ≤ (j : Int) + 1 := by omega
        have j5 : IntKind.i64.wrap (j : Int) = (j : Int) := IntWalk.i64_in _ (by omega)
        have hcall : ∀ W : World, Ints .i64 W S v.op.s → Ints .i64 W J v.ins → Shps W Q v.p → Shps W (some ⟨g, 0, none⟩) sh → Calls Tryz.prog 39 #[.agg #[.int .i64 v.op.kind, .int .i64 v.op.k, .int .i64 v.op.width, .int .i64 v.op.step, .int .i64 v.op.side, .int .i64 v.op.frm, .int .i64 v.op.to, .slice S v.op.s.length sc, .slice J v.ins.length ic, .slice Q v.p.length qc], .slice (some ⟨g, 0, none⟩) (n.nodes.length + 1) (n.nodes.length + 1)] W (RefP (Od.shape v.op v.p (Nt.pick sh v.ins)) W) := fun W q1 q2 q3 q4 => by
         rw [← hshl]
         exact ref11_shape v S J Q sc ic qc g sh.length sh W hnok hrv hs1.1 hs1.2 q1 q2 q3 q4 hgr
        have hrgt := fun h : (Od.shape v.op v.p (Nt.pick sh v.ins)).2 = 0 => right_short (Od.shape_right h)
        generalize Od.shape v.op v.p (Nt.pick sh v.ins) = r at *
        have hcall2 := hcall
        have F1 := Lib.hid hNw.2.1
        have F2 := Lib.hid hNw.2.2.1
        have F3 := Lib.hid hNw.2.2.2
        have F4 := Lib.hid hrow.shps
        have HC1 := Lib.hid hcall
        have HT := Lib.hid hrgt
        have HL := Lib.hid hlay'
        have HFa := Lib.hid hfail
        clear hcall hcall2 hrgt hlay' hfail hNw hNA hgr hinr hnok hrv hst hiF hbe hsplit hj' hgood
        have Hbox := Lib.hid hbox
        have HO := Lib.hid hO
        have Hlay := Lib.hid hlay
        have Hrow := Lib.hid hrow
        clear hbox hO hlay hrow
        have kn : k < n.nodes.length := by omega
        go_wp2_with fail
        go_region_held3 (fun w' => w'.cell? ⟨w.heap.size, 1, none⟩ = some (.slice (some ⟨b1, off1, none⟩) n.nodes.length d) ∧ w'.cell? ⟨b, off + k, none⟩ = some (.int .i64 ((j : Int) + 1)) ∧ w'.cell? ⟨b1, off1 + j * 10, none⟩ = some (.int .i64 v.op.kind) ∧ w'.cell? ⟨b1, off1 + j * 10 + 1, none⟩ = some (.int .i64 v.op.k) ∧ w'.cell? ⟨b1, off1 + j * 10 + 2, none⟩ = some (.int .i64 v.op.width) ∧ w'.cell? ⟨b1, off1 + j * 10 + 3, none⟩ = some (.int .i64 v.op.step) ∧ w'.cell? ⟨b1, off1 + j * 10 + 4, none⟩ = some (.int .i64 v.op.side) ∧ w'.cell? ⟨b1, off1 + j * 10 + 5, none⟩ = some (.int .i64 v.op.frm) ∧ w'.cell? ⟨b1, off1 + j * 10 + 6, none⟩ = some (.int .i64 v.op.to) ∧ w'.cell? ⟨b1, off1 + j * 10 + 7, none⟩ = some (.slice S v.op.s.length sc) ∧ w'.cell? ⟨b1, off1 + j * 10 + 8, none⟩ = some (.slice J v.ins.length ic) ∧ w'.cell? ⟨b1, off1 + j * 10 + 9, none⟩ = some (.slice Q v.p.length qc)) (first | go_keep | (exact ⟨cell_below hb9 x1, cell_below hb9 hc, cell_below hb9 y0, cell_below hb9 y1, cell_below hb9 y2, cell_below hb9 y3, cell_below hb9 y4, cell_below hb9 y5, cell_below hb9 y6, cell_below hb9 y7, cell_below hb9 y8, cell_below hb9 y9⟩))
         ((go_at_call 39; refine (HC1.out _ (by exact F1.out) (by exact F2.out) (by exact F3.out) (by exact F4.out)).mono ?_; rintro e w9 ⟨S9, c9, rfl, hI9, h91, h92, hb9⟩))
        have hb8 : Below wr.heap.size wr w9 := ⟨hb9.os, hb9.tape, hb9.output, hb9.size, hb9.block⟩
        have hbw9 := hbw.trans (hb8.mono hbw.size)
        clear y0 y1 y2 y3 y4 y5 y6 y7 y8 y9 hb9 x1 HC1 F1 F2 F3 F4
        by_cases hr2 : r.2 = 0
        ·have q1 : (r.2 != 0) = false := by simp [hr2]
         have hrow9 := Hrow.out.below hb8 (Nat.le_refl _)
         have hbox9 := Hbox.out.below hb8 Hbox.out.lt
         have hO9 := HO.out.below hb8 (Nat.le_refl _)
         have hc9 := cell_below hb8 hc
         have hj1 : j + 1 < sh.length := by omega
         obtain ⟨Sm, cm, ym, -⟩ := hrow9.at_ hj1
         have fm : w9.frozen? ⟨g, j + 1, none⟩ = false := by obtain ⟨vs, _, hk, _⟩ := hrow9; exact hk.frozen (j + 1)
         have hset := hrow9.set_ (i := j + 1) hI9 h91 h92 (hrow9.apart hI9 (HT.out hr2).1)
         have HS := Lib.hid hset
         have HBX := Lib.hid (hbox9.far (p := ⟨g, j + 1, none⟩) hgne (.slice S9 r.1.length c9))
         have hbw5 := hbw9.setCell (p := ⟨g, j + 1, none⟩) (by simp; omega) (.slice S9 r.1.length c9)
         have HO5 := Lib.hid (hO9.set_far (p := ⟨g, j + 1, none⟩) HOb.out (.slice S9 r.1.length c9))
         have HL2 := Lib.hid (HL.out hr2)
         have j3 : ((j : Int) + 1) < ((n.nodes.length + 1 : Nat) : Int) := by omega
         have j6 : ((j : Int) + 1).toNat = j + 1 := by omega
         clear hset hrow9 hbox9 hO9 hr2 hc
         have HI9 := Lib.hid hI9
         clear hI9
         go_wp2_with fail
         go_roundw
         case rel => exact ⟨k + 1, by omega, by go_num, HBX.out, hbw5, HO5.out, _, HL2.out, HS.out⟩
         case measure => simp [intOf]; omega
        ·have q1 : (r.2 != 0) = true := by simp [hr2]
         have hck := Hcheck.out
         rw [HFa.out hr2] at hck
         have HC := Lib.hid (hck hr2)
         have HR2 := Lib.hid hr2
         have HI9 := Lib.hid hI9
         clear hI9
         clear hr2 hck
         go_wp2_with fail
         go_ret3
         exact RefCheckP.err HC.out HR2.out hbw9
       ·obtain rfl : k = os.length := by omega
        rw [List.take_length] at hlay
        have hc6 := fun h6 => Hcheck6.out (by rw [hlay]) h6
        have hc7 := fun h6 => Hcheck7.out (by rw [hlay]) h6
        have hg2 := HgoodF.out (by rw [hlay])
        have hsh := Hshp.out
        rw [hlay] at hg2 hsh
        have hsh : sh = Nt.shapes n := hsh
        subst hsh
        have hg2 : Nt.Good os (Nt.shapes n) := hg2
        have i2 : ¬ ((os.length : Int) < (n.nodes.length : Int)) := by omega
        have i3 : ¬ (os.length < n.nodes.length) := by omega
        clear hgood hk hlt
        have Hc6 := Lib.hid hc6
        have Hc7 := Lib.hid hc7
        have Hg2 := Lib.hid hg2
        have Hlay := Lib.hid hlay
        have Hrow := Lib.hid hrow
        have Hbox := Lib.hid hbox
        have HO := Lib.hid hO
        clear hc6 hc7 hg2 hlay hrow hbox hO
        have Hol := Lib.hid hol
        clear hol
        go_wp2_with fail
        clear x1
        obtain ⟨w5, rfl⟩ : ∃ w5, w5 = wr := ⟨wr, rfl⟩
        go_loopw [12, 13, 14] (fun l m i wx => ∃ k : Nat, k ≤ n.nodes.length + 1 ∧ i = .int .i64 k ∧ l = .int .i64 ((Nt.unusedTo n.nodes k).getLastD 0) ∧ m = .int .i64 ((Nt.unusedTo n.nodes k).length : Nat) ∧ Below w5.heap.size w5 wx) (fun _ _ i _ => n.nodes.length + 1 - (intOf i).toNat)
        case atStart => exact ⟨0, Nat.zero_le _, rfl, rfl, rfl, Below.refl _ _⟩
        case round =>
         obtain ⟨k, hk, rfl, rfl, rfl, hbx⟩ := hrel
         have hbox5 := Hbox.out.below hbx Hbox.out.lt
         have hbwx := hbw.trans (hbx.mono hbw.size)
         have x0 : wr.cell? ⟨w.heap.size, 0, none⟩ = some (.slice A n.inn.length c) := by rw [hbox5.cell]; rfl
         have x1 : wr.cell? ⟨w.heap.size, 1, none⟩ = some (.slice N n.nodes.length d) := by rw [hbox5.cell]; rfl
         have hul := Nt.unusedTo_len n.nodes k
         by_cases hlt : k ≤ n.nodes.length
         ·have HS := Lib.hid (Nt.unusedTo_succ n.nodes k)
          obtain ⟨L0, hL0⟩ : ∃ L0, (Nt.unusedTo n.nodes k).getLastD 0 = L0 := ⟨_, rfl⟩
          obtain ⟨c0, hc0⟩ : ∃ c0, (Nt.unusedTo n.nodes k).length = c0 := ⟨_, rfl⟩
          rw [hc0] at hul
          rw [hL0, hc0]
          have hcu := Nt.count_used n.nodes (k : Int)
          have hcall := ref11_users A N c d n (k : Int) wr Hok.out (HR.out.below hbwx (Nat.le_refl _))
          generalize Nt.count n.nodes (k : Int) = cn at *
          have HL0 := Lib.hid hL0
          have Hc0 := Lib.hid hc0
          have Hcu := Lib.hid hcu
          have Hcall := Lib.hid hcall
          have Hbox5 := Lib.hid hbox5
          clear hL0 hc0 hcu hcall hbox5
          go_wp2_with fail
          refine (Hcall.out).mono ?_
          rintro e w6 ⟨rfl, hb6⟩
          have hbx6 := hbx.trans (hb6.mono hbx.size)
          clear x0 x1
          by_cases hz : cn = 0
          ·have HU := Lib.hid (Hcu.out.1 hz)
           have e1 : ((cn : Int) == 0) = true := by simp [hz]
           have e2 : (cn == 0) = true := by simp [hz]
           subst hz
           go_wp2_with fail
           go_roundw
           case rel => exact ⟨k + 1, by omega, by go_num, by rw [HS.out, HU.out]; simp, by rw [HS.out, HU.out, if_neg (by simp), List.length_append, Hc0.out]; go_num, hbx6⟩
           case measure => simp [intOf]; omega
          ·have HU := Lib.hid (show Nt.isUsed n.nodes (k : Int) = true by
            cases h : Nt.isUsed n.nodes (k : Int)
            ·exact absurd (Hcu.out.2 h) hz
            ·rfl)
           have e1 : ((cn : Int) == 0) = false := by simp; omega
           have e2 : (cn == 0) = false := by simp; omega
           clear hz
           go_wp2_with fail
           go_roundw
           case rel => exact ⟨k + 1, by omega, by go_num, by rw [HS.out, HU.out, if_pos rfl, HL0.out], by rw [HS.out, HU.out, if_pos rfl, Hc0.out], hbx6⟩
           case measure => simp [intOf]; omega
         ·obtain rfl : k = n.nodes.length + 1 := by omega
          rw [Nt.unusedTo_all]
          have i4 : ¬ (((n.nodes.length + 1 : Nat) : Int) ≤ (n.nodes.length : Int)) := by omega
          have hl1 : (Nt.unused n.nodes).getLastD 0 = Nt.loss n.nodes := rfl
          rw [hl1]
          have hlok : Nt.lossOk n.nodes = decide ((Nt.unused n.nodes).length = 1 ∧ Nt.loss n.nodes ≠ 0) := rfl
          rw [Nt.unusedTo_all] at hul
          clear hl1
          by_cases hu1 : (Nt.unused n.nodes).length = 1
          rotate_left
          ·have HC := Lib.hid (Hc6.out (by rw [hlok]; simp [hu1]))
           have e1 : (((Nt.unused n.nodes).length : Int) != 1) = true := by rw [bne_iff_ne]; omega
           have e2 : ((Nt.unused n.nodes).length != 1) = true := by rw [bne_iff_ne]; omega
           generalize (Nt.unused n.nodes).length = ul at *
           have Hlok := Lib.hid hlok
           clear hlok
           clear hu1
           go_wp2_with fail
           go_ret3
           exact RefCheckP.err HC.out (by omega) hbwx
          ·by_cases hl0 : Nt.loss n.nodes = 0
           ·have HC := Lib.hid (Hc6.out (by rw [hlok]; simp [hl0]))
            rw [hu1, hl0]
            clear hu1 hl0 hlok
            go_wp2_with fail
            go_ret3
            exact RefCheckP.err HC.out (by omega) hbwx
           ·have hlo : Nt.lossOk n.nodes = true := by rw [hlok]; simp [hu1, hl0]
            have hlm := (Nt.loss_mem hlo).2
            have hch := Hc7.out hlo
            obtain ⟨l, hl⟩ : ∃ l : Nat, Nt.loss n.nodes = (l : Int) := ⟨(Nt.loss n.nodes).toNat, by omega⟩
            have Hl := Lib.hid hl
            rw [hu1]
            rw [hl] at hlm hch hl0 ⊢
            rw [Int.toNat_natCast] at hch
            have hll : l < (Nt.shapes n).length := by omega
            have hgl := Hg2.out (l : Int) (.inr ((Hfull.out _).2 (by omega)))
            rw [Int.toNat_natCast, gets_at hll] at hgl
            rw [gets_at hll] at hch
            have hrow5 := Hrow.out.below hbx (Nat.le_refl _)
            obtain ⟨Sl, sc, hcS, hIS, hs1, hs2, -⟩ := hrow5.at_ hll
            have hsz := ref03_size Sl sc _ wr hgl hIS
            have e1 : ((l : Int) == 0) = false := by simp; omega
            have e1' : (l == 0) = false := by simp; omega
            have l0 : (0 : Int) ≤ (l : Int) := by omega
            have l1 : (l : Int) < ((n.nodes.length + 1 : Nat) : Int) := by omega
            generalize (Nt.shapes n)[l] = s at *
            have Hrow5 := Lib.hid hrow5
            have Hch := Lib.hid hch
            have Hl := Lib.hid hl
            have Hsz := Lib.hid hsz
            have HIS := Lib.hid hIS
            have Hgl := Lib.hid hgl
            have Hlo := Lib.hid hlo
            have Hlok := Lib.hid hlok
            clear hrow5 hch hl hsz hIS hgl hlo hlok
            clear hu1 hl0
            go_wp2_with fail
            refine (Hsz.out).mono ?_
            rintro e w7 ⟨rfl, rfl⟩
            by_cases hp : Safe.prod s = 1
            ·have HC := Lib.hid (show Nt.check n = 0 by rw [Hch.out, if_neg (by simp [hp])])
             have e2 : (Safe.prod s != 1) = false := by simp [hp]
             clear hp
             go_wp2_with fail
             go_ret3
             exact ⟨hbwx, .inl ⟨HC.out, g, by rw [Hl.out]; rfl, by omega, Hrow5.out⟩⟩
            ·have HC := Lib.hid (show Nt.check n = 23 by rw [Hch.out, if_pos hp])
             have e2 : (Safe.prod s != 1) = true := by simp [hp]
             clear hp
             go_wp2_with fail
             go_ret3
             exact RefCheckP.err HC.out (by omega) hbwx
end Go.Proofs.YtbnnpkcfifejmabGreat
namespace Go.Proofs.YtbnnpkcfifejmabGreat
open Go.RowKit
namespace Pn
theorem params_at {ns : List NodeD} {k m : Nat} (h : k < ns.length) (hm : m < ns[k].p.length) : (ns.flatMap (·.p)).getD (from_ ns k + m) [] = ns[k].p[m] := by
 have e : ns.flatMap (·.p) = (ns.take k).flatMap (·.p) ++ (ns[k].p ++ (ns.drop (k + 1)).flatMap (·.p)) := by
  rw [← List.flatMap_cons, ← List.drop_eq_getElem_cons h, ← List.flatMap_append, List.take_append_drop]
 rw [e]
 unfold from_
 rw [List.getD_eq_getElem?_getD, List.getElem?_append_right (by omega), Nat.add_sub_cancel_left, List.getElem?_append_left hm, List.getElem?_eq_getElem hm]
 rfl
theorem params_lt {ns : List NodeD} {k m : Nat} (h : k < ns.length) (hm : m < ns[k].p.length) : from_ ns k + m < (ns.flatMap (·.p)).length := by
 have e : ns.flatMap (·.p) = (ns.take k).flatMap (·.p) ++ (ns[k].p ++ (ns.drop (k + 1)).flatMap (·.p)) := by
  rw [← List.flatMap_cons, ← List.drop_eq_getElem_cons h, ← List.flatMap_append, List.take_append_drop]
 rw [e, List.length_append, List.length_append]
 unfold from_
 omega
theorem from_all (ns : List NodeD) : from_ ns ns.length = (ns.flatMap (·.p)).length := by unfold from_; rw [List.take_length]
theorem fits_few {n : NetD} {ps : List Ten} {x : Ten} (hc : Nt.check n = 0) (h : ps.length ≠ (Nt.params n).length) : fits n ps x = 20 := by
 unfold fits
 rw [if_neg (by omega), if_pos h]
theorem fits_bad {n : NetD} {ps : List Ten} {x : Ten} {k : Nat} (hc : Nt.check n = 0) (hk : k < (Nt.params n).length) (h : tenIs (Ly.got ps k) ((Nt.params n).getD k []) = false) : fits n ps x = 20 := by
 unfold fits
 rw [if_neg (by omega)]
 split
 ·rfl
 ·rw [if_pos (parOk_bad hk h)]
theorem fits_end {n : NetD} {ps : List Ten} {x : Ten} (hc : Nt.check n = 0) (hl : ps.length = (Nt.params n).length) (hp : parOk ps (Nt.params n) (Nt.params n).length = true) : fits n ps x = if tenIs x n.inn then 0 else 20 := by
 unfold fits
 rw [if_neg (by omega), if_neg (by omega), if_neg (by simp [hp])]
end Pn
set_option maxRecDepth 20000 in
set_option maxHeartbeats 8000000 in
theorem right_14 (S C : Option Addr) (c d : Nat) (T : Option Addr) (tc : Nat) (t : Ten) (s : List Int) (w : World) (hT : TenIn w S C c d t) (hI : Ints .i64 w T s) (hs : s.length ≤ 1048576) :
  Calls Tryz.prog 15 #[.agg #[.slice S t.s.length c, .slice C t.c.length d], .slice T s.length tc] w fun e w' => e = .returned (.bool (Pn.tenIs t s)) ∧ Below w.heap.size w w' := by
 have hk := Blk.new w 30 #[.slice S t.s.length c, .slice C t.c.length d]
 have h01 : Later w (w.alloc (.cells #[.slice S t.s.length c, .slice C t.c.length d] 30)) := (Later.refl w).alloc _
 have l1 := hT.l1
 have l2 := hT.l2
 have Hk := Lib.hid hk
 have H01 := Lib.hid h01
 have HT := Lib.hid hT
 have HI := Lib.hid hI
 clear hk h01 hT hI
 go_enter Tryz.func15, Tryz.ntmps15
 go_upto_region 1 with fail
 generalize w.alloc (.cells #[.slice S t.s.length c, .slice C t.c.length d] 30) = w1 at *
 have x0 : w1.cell? ⟨w.heap.size, 0, none⟩ = _ := Hk.out.cell 0
 have x1 : w1.cell? ⟨w.heap.size, 1, none⟩ = _ := Hk.out.cell 1
 simp at x0 x1
 have hr := fun (W : World) (h : Later w1 W) => ref03_right S c t.s W (by omega) ((HT.out.later (H01.out.trans h)).r.1)
 have hz := fun (W : World) (h : Later w1 W) (hg : Sh.right t.s = true) => ref03_size S c t.s W hg ((HT.out.later (H01.out.trans h)).r.1)
 have hq := fun (W : World) (h : Later w1 W) => ref03_same S T c tc t.s s W (by omega) (by omega) ((HT.out.later (H01.out.trans h)).r.1) (HI.out.below (H01.out.trans h) (Nat.le_refl _))
 by_cases g1 : Sh.right t.s = true
 case neg =>
  have HE := Lib.hid (show Pn.tenIs t s = false by unfold Pn.tenIs; rw [Tn.right_false (by simpa using g1)]; rfl)
  rw [show Sh.right t.s = false by simpa using g1] at hr
  have Hr := Lib.hid hr
  clear hr
  clear g1 hz hq
  have KF := Lib.hid (show ∀ Xw, Later w1 Xw → Xw.cell? ⟨w.heap.size, 0, none⟩ = some (.slice S t.s.length c) ∧ Xw.cell? ⟨w.heap.size, 1, none⟩ = some (.slice C t.c.length d) from fun Xw h => ⟨h.cell x0, h.cell x1⟩)
  refine wp_region_noPanic ?_
  refine wp_region_held_drew (S := fun Xw => Xw.cell? ⟨w.heap.size, 0, none⟩ = some (.slice S t.s.length c) ∧ Xw.cell? ⟨w.heap.size, 1, none⟩ = some (.slice C t.c.length d)) (by kernel_rfl) (KF.out _ Later.au) (fun hHeld => ?_)
  refine tk 0 ?_
  refine tk 1 ?_
  refine rd 2 fun K hK => ?_
  simp only [ga, gs, gz]
  go_simp
  go_at_call 36; (with_reducible refine (Hr.out _ (Later.au : Later w1 _)).mono ?_); rintro e wg ⟨rfl, rfl⟩
  try go_wp2_with fail
  refine hK.out _ _ (KF.out _ Later.au) (fun hHeld => ?_)
  clear hK K
  try simp only [ga, gs, gz, Act.put, sa, sz, ss]
  refine tk 3 ?_
  refine tn 4 ?_
  refine tn 5 ?_
  refine tn 6 ?_
  refine tn 7 ?_
  refine tn 8 ?_
  refine tn 9 ?_
  refine tn 10 ?_
  refine tk 11 ?_
  refine tk 12 ?_
  refine tn 13 ?_
  refine tn 14 ?_
  refine tn 15 ?_
  refine tn 16 ?_
  refine tk 17 ?_
  refine tk 18 ?_
  clear KF
  refine wpAnyH_done (by kernel_rfl) ?_ _
  refine NoPanic.normal ?_
  go_wp2_with fail
  go_ret
  exact ⟨by (rw [HE.out] <;> rfl), Later.drew H01.out⟩
 rw [g1] at hr
 have hz := fun (W : World) (h : Later w1 W) => hz W h g1
 by_cases g2 : (t.c.length : Int) = Safe.prod t.s
 case neg =>
  have HE := Lib.hid (show Pn.tenIs t s = false by unfold Pn.tenIs; rw [Tn.right_true g1, decide_eq_false g2]; rfl)
  have q2 : ((t.c.length : Int) == Safe.prod t.s) = false := by simpa using g2
  generalize Safe.prod t.s = pr at *
  have Hr := Lib.hid hr
  have Hz := Lib.hid hz
  clear hr hz
  clear g1 hq
  have KF := Lib.hid (show ∀ Xw, Later w1 Xw → Xw.cell? ⟨w.heap.size, 0, none⟩ = some (.slice S t.s.length c) ∧ Xw.cell? ⟨w.heap.size, 1, none⟩ = some (.slice C t.c.length d) from fun Xw h => ⟨h.cell x0, h.cell x1⟩)
  refine wp_region_noPanic ?_
  refine wp_region_held_drew (S := fun Xw => Xw.cell? ⟨w.heap.size, 0, none⟩ = some (.slice S t.s.length c) ∧ Xw.cell? ⟨w.heap.size, 1, none⟩ = some (.slice C t.c.length d)) (by kernel_rfl) (KF.out _ Later.au) (fun hHeld => ?_)
  refine tk 0 ?_
  refine tk 1 ?_
  refine rd 2 fun K hK => ?_
  simp only [ga, gs, gz]
  go_simp
  go_at_call 36; (with_reducible refine (Hr.out _ (Later.au : Later w1 _)).mono ?_); rintro e wg ⟨rfl, rfl⟩
  try go_wp2_with fail
  refine hK.out _ _ (KF.out _ Later.au) (fun hHeld => ?_)
  clear hK K
  try simp only [ga, gs, gz, Act.put, sa, sz, ss]
  refine tk 3 ?_
  refine tk 4 ?_
  refine tk 5 ?_
  refine tk 6 ?_
  refine tk 7 ?_
  refine tk 8 ?_
  refine rd 9 fun K hK => ?_
  simp only [ga, gs, gz]
  go_simp
  go_at_call 41; (with_reducible refine (Hz.out _ (Later.au : Later w1 _)).mono ?_); rintro e wg ⟨rfl, rfl⟩
  try go_wp2_with fail
  refine hK.out _ _ (KF.out _ Later.au) (fun hHeld => ?_)
  clear hK K
  try simp only [ga, gs, gz, Act.put, sa, sz, ss]
  refine tk 10 ?_
  refine tk 11 ?_
  refine tk 12 ?_
  refine tn 13 ?_
  refine tn 14 ?_
  refine tn 15 ?_
  refine tn 16 ?_
  refine tk 17 ?_
  refine tk 18 ?_
  clear KF
  refine wpAnyH_done (by kernel_rfl) ?_ _
  refine NoPanic.normal ?_
  go_wp2_with fail
  go_ret
  exact ⟨by (rw [HE.out] <;> rfl), Later.drew H01.out⟩
 have HE := Lib.hid (show Pn.tenIs t s = decide (t.s = s) by unfold Pn.tenIs; rw [Tn.right_true g1, decide_eq_true g2, Bool.true_and]; exact Bool.beq_eq_decide_eq ..)
 have q2 : ((t.c.length : Int) == Safe.prod t.s) = true := by simpa using g2
 generalize Safe.prod t.s = pr at *
 generalize decide (t.s = s) = bb at *
 have Hr := Lib.hid hr
 have Hz := Lib.hid hz
 have Hq := Lib.hid hq
 clear hr hz hq
 clear g1
 have KF := Lib.hid (show ∀ Xw, Later w1 Xw → Xw.cell? ⟨w.heap.size, 0, none⟩ = some (.slice S t.s.length c) ∧ Xw.cell? ⟨w.heap.size, 1, none⟩ = some (.slice C t.c.length d) from fun Xw h => ⟨h.cell x0, h.cell x1⟩)
 refine wp_region_noPanic ?_
 refine wp_region_held_drew (S := fun Xw => Xw.cell? ⟨w.heap.size, 0, none⟩ = some (.slice S t.s.length c) ∧ Xw.cell? ⟨w.heap.size, 1, none⟩ = some (.slice C t.c.length d)) (by kernel_rfl) (KF.out _ Later.au) (fun hHeld => ?_)
 refine tk 0 ?_
 refine tk 1 ?_
 refine rd 2 fun K hK => ?_
 simp only [ga, gs, gz]
 go_simp
 go_at_call 36; (with_reducible refine (Hr.out _ (Later.au : Later w1 _)).mono ?_); rintro e wg ⟨rfl, rfl⟩
 try go_wp2_with fail
 refine hK.out _ _ (KF.out _ Later.au) (fun hHeld => ?_)
 clear hK K
 try simp only [ga, gs, gz, Act.put, sa, sz, ss]
 refine tk 3 ?_
 refine tk 4 ?_
 refine tk 5 ?_
 refine tk 6 ?_
 refine tk 7 ?_
 refine tk 8 ?_
 refine rd 9 fun K hK => ?_
 simp only [ga, gs, gz]
 go_simp
 go_at_call 41; (with_reducible refine (Hz.out _ (Later.au : Later w1 _)).mono ?_); rintro e wg ⟨rfl, rfl⟩
 try go_wp2_with fail
 refine hK.out _ _ (KF.out _ Later.au) (fun hHeld => ?_)
 clear hK K
 try simp only [ga, gs, gz, Act.put, sa, sz, ss]
 refine tk 10 ?_
 refine tk 11 ?_
 refine tk 12 ?_
 refine tk 13 ?_
 refine tk 14 ?_
 refine tk 15 ?_
 refine rd 16 fun K hK => ?_
 simp only [ga, gs, gz]
 go_simp
 go_at_call 42; (with_reducible refine (Hq.out _ (Later.au : Later w1 _)).mono ?_); rintro e wg ⟨rfl, qn, rfl⟩
 try go_wp2_with fail
 refine hK.out _ _ (KF.out _ Later.au) (fun hHeld => ?_)
 clear hK K
 try simp only [ga, gs, gz, Act.put, sa, sz, ss]
 refine tk 17 ?_
 refine tk 18 ?_
 clear KF
 refine wpAnyH_done (by kernel_rfl) ?_ _
 refine NoPanic.normal ?_
 go_wp2_with fail
 go_ret
 exact ⟨by (rw [HE.out] <;> rfl), Later.drewN H01.out _⟩
def SmallC (n : NetD) (w : World) (e : Ending) (w' : World) : Prop := ∃ b, e = .returned (.bool b) ∧ (b = true → n.nodes.length ≤ 300) ∧ Below w.heap.size w w'
set_option maxRecDepth 20000 in
set_option maxHeartbeats 8000000 in
theorem small_14 (A N P XS XC : Option Addr) (c d cp xc xd : Nat) (n : NetD) (ps : List Ten) (x : Ten) (w : World) (hok : n.ok) (hR : NetR w A N n) (hP : Tns w P ps) (lP : ps.length ≤ 1048576) (hX : TenIn w XS XC xc xd x) :
  Calls Tryz.prog 4 #[.agg #[.slice A n.inn.length c, .slice N n.nodes.length d, .slice P ps.length cp, .slice XS x.s.length xc, .slice XC x.c.length xd]] w (SmallC n w) := by
 have hnl := hok.2.1
 have hil := hok.1
 have lx1 := hX.l1
 have lx2 := hX.l2
 have hk := Blk.new w 32 #[.slice A n.inn.length c, .slice N n.nodes.length d, .slice P ps.length cp, .slice XS x.s.length xc, .slice XC x.c.length xd]
 have h01 : Later w (w.alloc (.cells #[.slice A n.inn.length c, .slice N n.nodes.length d, .slice P ps.length cp, .slice XS x.s.length xc, .slice XC x.c.length xd] 32)) := (Later.refl w).alloc _
 have Hok := Lib.hid hok
 have HR := Lib.hid hR
 have HP := Lib.hid hP
 have Hk := Lib.hid hk
 have H01 := Lib.hid h01
 clear hok hR hP hk h01
 clear hX
 go_enter Tryz.func4, Tryz.ntmps4
 go_wp2_with fail
 generalize w.alloc (.cells #[.slice A n.inn.length c, .slice N n.nodes.length d, .slice P ps.length cp, .slice XS x.s.length xc, .slice XC x.c.length xd] 32) = w1 at *
 go_loopw [3, 27] (fun t i wx => ∃ (k : Nat) (z : Int), k ≤ ps.length ∧ i = .int .i64 (k : Int) ∧ t = .int .i64 z ∧ 0 ≤ z ∧ z ≤ 3145728 + (k : Int) * 2097153 ∧ Later w1 wx) (fun _ i _ => ps.length - (intOf i).toNat)
 case atStart => exact ⟨0, _, Nat.zero_le _, rfl, rfl, by omega, by omega, Later.refl _⟩
 case round =>
  obtain ⟨k, z, hk, rfl, rfl, hz1, hz2, hlx⟩ := hrel
  have hkb : (k : Int) * 2097153 ≤ 1048576 * 2097153 := Int.mul_le_mul_of_nonneg_right (by omega) (by omega)
  by_cases hlt : k < ps.length
  ·obtain ⟨b, off, S', sc, C', cc, rfl, -, p0, p1, hT⟩ := (HP.out.later (H01.out.trans hlx)).at_ hlt
   have t1 := hT.l1
   have t2 := hT.l2
   generalize Ly.got ps k = t at *
   have hz5 : z + (1 + (t.s.length : Int) + (t.c.length : Int)) ≤ 3145728 + ((k : Int) + 1) * 2097153 := by rw [Int.add_mul]; omega
   have hz6 : z ≤ 2199030000000 := by omega
   have hla := hlx.alloc (.cells #[.slice S' t.s.length sc, .slice C' t.c.length cc] 30)
   clear hT hz2 hkb
   have Hz5 := Lib.hid hz5
   have Hlx := Lib.hid hlx
   have Hla := Lib.hid hla
   clear hz5 hlx hla
   go_wp2_with fail
   go_roundw
   case rel => exact ⟨k + 1, _, by omega, by go_num, rfl, by omega, Hz5.out, Hla.out⟩
   case measure => simp [intOf]; omega
  ·obtain rfl : k = ps.length := by omega
   have hkx := hlx.blk Hk.out
   have y0 : wr.cell? ⟨w.heap.size, 0, none⟩ = _ := hkx.cell 0
   have y1 : wr.cell? ⟨w.heap.size, 1, none⟩ = _ := hkx.cell 1
   simp at y0 y1
   have hz6 : z ≤ 2199030000000 := by omega
   clear hz2 hkb
   have h0x := H01.out.trans hlx
   have Hkx := Lib.hid hkx
   have Hlx := Lib.hid hlx
   have H0x := Lib.hid h0x
   clear hkx hlx h0x
   go_wp2_with fail
   obtain ⟨wo, rfl⟩ : ∃ wo, wo = wr := ⟨wr, rfl⟩
   go_loopw [3, 46] (fun t i wx => ∃ (k : Nat) (z : Int), k ≤ n.nodes.length ∧ i = .int .i64 (k : Int) ∧ t = .int .i64 z ∧ 3 * (k : Int) ≤ z ∧ z ≤ 2199030000000 ∧ Later wo wx) (fun _ i _ => n.nodes.length - (intOf i).toNat)
   case atStart => exact ⟨0, _, Nat.zero_le _, rfl, rfl, by omega, hz6, Later.refl _⟩
   case round =>
    obtain ⟨k, z, hk, rfl, rfl, hz1, hz2, hlx⟩ := hrel
    by_cases hlt : k < n.nodes.length
    ·obtain ⟨b, off, S, sc, J, ic, Q, qc, rfl, hNA, -, -, -⟩ := HR.out.2.at_ hlt
     have hnok := Hok.out.2.2 _ (List.getElem_mem hlt)
     have hsl := hnok.2.1
     have hll := hnok.2.2.1
     have hpl := hnok.2.2.2.1
     have hps := hnok.2.2.2.2.1
     have hQi := hNA.2.2.2
     generalize n.nodes[k] = v at *
     have hbw := H0x.out.trans hlx
     obtain ⟨⟨y0, y1, y2, y3, y4, y5, y6, y7, y8, y9⟩, -⟩ := hNA.below hbw
     have hbn := hbw.alloc (.cells #[.int .i64 v.op.kind, .int .i64 v.op.k, .int .i64 v.op.width, .int .i64 v.op.step, .int .i64 v.op.side, .int .i64 v.op.frm, .int .i64 v.op.to, .slice S v.op.s.length sc, .slice J v.ins.length ic, .slice Q v.p.length qc] 47)
     have hln := hlx.alloc (.cells #[.int .i64 v.op.kind, .int .i64 v.op.k, .int .i64 v.op.width, .int .i64 v.op.step, .int .i64 v.op.side, .int .i64 v.op.frm, .int .i64 v.op.to, .slice S v.op.s.length sc, .slice J v.ins.length ic, .slice Q v.p.length qc] 47)
     have HNA := Lib.hid hNA
     have Hnok := Lib.hid hnok
     have HQi := Lib.hid hQi
     have Hps := Lib.hid hps
     have Hbw := Lib.hid hbw
     have Hlx := Lib.hid hlx
     clear hNA hnok hQi hps hbw hlx
     go_wp2_with fail
     clear y0 y1 y2 y3 y4 y5 y6 y7 y8 y9
     generalize wr.alloc (.cells #[.int .i64 v.op.kind, .int .i64 v.op.k, .int .i64 v.op.width, .int .i64 v.op.step, .int .i64 v.op.side, .int .i64 v.op.frm, .int .i64 v.op.to, .slice S v.op.s.length sc, .slice J v.ins.length ic, .slice Q v.p.length qc] 47) = w2 at *
     go_loop [3, 64] (fun t i => ∃ (m : Nat) (z2 : Int), m ≤ v.p.length ∧ i = .int .i64 (m : Int) ∧ t = .int .i64 z2 ∧ z + 3 ≤ z2 ∧ z2 ≤ z + 3 + 2097152 + (m : Int) * 1048577) (fun _ i => v.p.length - (intOf i).toNat)
     case atStart => exact ⟨0, _, Nat.zero_le _, rfl, rfl, by omega, by omega⟩
     case round =>
      obtain ⟨m, z2, hm, rfl, rfl, hz3, hz4⟩ := hrel
      have hmb : (m : Int) * 1048577 ≤ 1048576 * 1048577 := Int.mul_le_mul_of_nonneg_right (by omega) (by omega)
      by_cases hlm : m < v.p.length
      ·obtain ⟨b5, o5, Ss, cs, rfl, -, hcs, -⟩ := HQi.out m hlm
       have hcs2 := cell_below hbn hcs
       have hsl2 := Hps.out _ (List.getElem_mem hlm)
       generalize v.p[m] = s at *
       have hz5 : z2 + (1 + (s.length : Int)) ≤ z + 3 + 2097152 + ((m : Int) + 1) * 1048577 := by rw [Int.add_mul]; omega
       have hz6 : z2 ≤ 3399000000000 := by omega
       clear hcs hz4 hmb
       have Hz5 := Lib.hid hz5
       clear hz5
       go_wp2_with fail
       go_round
       case rel => exact ⟨m + 1, _, by omega, by go_num, rfl, by omega, Hz5.out⟩
       case measure => simp [intOf]; omega
      ·obtain rfl : m = v.p.length := by omega
       by_cases h3 : 800 < z2
       ·have d3 : decide (800 < z2) = true := by simpa using h3
        clear h3 hmb hz4
        go_wp2_with fail
        go_ret
        exact ⟨_, rfl, by simp, hbn⟩
       ·have d3 : decide (800 < z2) = false := by simpa using h3
        have hz7 : 3 * ((k : Int) + 1) ≤ z2 := by omega
        have hz8 : z2 ≤ 2199030000000 := by omega
        clear h3 hmb hz4
        go_wp2_with fail
        go_roundw
        case rel => exact ⟨k + 1, _, by omega, by go_num, rfl, hz7, hz8, hln⟩
        case measure => simp [intOf]; omega
    ·obtain rfl : k = n.nodes.length := by omega
     go_wp2_with fail
     go_ret
     refine ⟨_, rfl, fun h => ?_, H0x.out.trans hlx⟩
     have h : z ≤ 800 := by simpa using h
     omega
end Go.Proofs.YtbnnpkcfifejmabGreat
namespace Go.Proofs.YtbnnpkcfifejmabGreat
open Go.RowKit
theorem case_five {W : World} {g : Nat} {t : TypeId} {v0 v1 v2 v3 v4 : Value} (h : Blk W g t #[v0, v1, v2, v3, v4]) : W.cell? ⟨g, 0, none⟩ = some v0 ∧ W.cell? ⟨g, 1, none⟩ = some v1 ∧ W.cell? ⟨g, 2, none⟩ = some v2 ∧ W.cell? ⟨g, 3, none⟩ = some v3 ∧ W.cell? ⟨g, 4, none⟩ = some v4 :=
 ⟨h.cell 0, h.cell 1, h.cell 2, h.cell 3, h.cell 4⟩
set_option maxRecDepth 20000 in
set_option maxHeartbeats 16000000 in
theorem fits_14 (A N P XS XC : Option Addr) (c d cp xc xd : Nat) (n : NetD) (ps : List Ten) (x : Ten) (w : World) (hok : n.ok) (hR : NetR w A N n) (hd : n.nodes.length ≤ d) (hc : n.inn.length ≤ c) (hcm : c ≤ 9223372036854775807) (hP : Tns w P ps) (lP : ps.length ≤ 1048576) (hX : TenIn w XS XC xc xd x) :
  Calls Tryz.prog 5 #[.agg #[.slice A n.inn.length c, .slice N n.nodes.length d, .slice P ps.length cp, .slice XS x.s.length xc, .slice XC x.c.length xd]] w fun e w' => e = .returned (.int .i64 (Pn.fits n ps x)) ∧ Below w.heap.size w w' := by
 have hil := hok.1
 have hk := Blk.new w 32 #[.slice A n.inn.length c, .slice N n.nodes.length d, .slice P ps.length cp, .slice XS x.s.length xc, .slice XC x.c.length xd]
 have h01 : Later w (w.alloc (.cells #[.slice A n.inn.length c, .slice N n.nodes.length d, .slice P ps.length cp, .slice XS x.s.length xc, .slice XC x.c.length xd] 32)) := (Later.refl w).alloc _
 have Hok := Lib.hid hok
 have HR := Lib.hid hR
 have HP := Lib.hid hP
 have Hk := Lib.hid hk
 have H01 := Lib.hid h01
 have HX := Lib.hid hX
 clear hok hR hP hk h01 hX
 go_enter Tryz.func5, Tryz.ntmps5
 go_upto_region 1 with fail
 generalize w.alloc (.cells #[.slice A n.inn.length c, .slice N n.nodes.length d, .slice P ps.length cp, .slice XS x.s.length xc, .slice XC x.c.length xd] 32) = w1 at *
 obtain ⟨y0, y1, y2, y3, y4⟩ := case_five Hk.out
 go_wp2_with fail
 refine (ref_14 A N c d n w1 Hok.out (HR.out.below H01.out (Nat.le_refl _))).mono ?_
 rintro e w2 ⟨N', d', rfl, hR2, hd1, hd2, hb2⟩
 have h02 := H01.out.call hb2
 have hk2 := (show Later w1 w2 from hb2).blk Hk.out
 clear hb2 y0 y1 y2 y3 y4
 have H02 := Lib.hid h02
 have Hk2 := Lib.hid hk2
 have HR2 := Lib.hid hR2
 clear h02 hk2 hR2
 go_wp2_with fail
 refine (ref11_check A N' c d' n w2 Hok.out HR2.out hd1 hc hcm).mono ?_
 rintro e w3 ⟨hb3, hres⟩
 have h23 : Later w2 w3 := hb3
 have h03 := H02.out.trans h23
 have hk3 := h23.blk Hk2.out
 clear hb3 Hk Hk2 H02 HR2
 rcases hres with ⟨hc0, g, rfl, -, -⟩ | ⟨hc0, rfl⟩
 rotate_left
 ·have HE := Lib.hid (show Pn.fits n ps x = Nt.check n by unfold Pn.fits; rw [if_pos hc0])
  have d2 : (Nt.check n != 0) = true := by simpa using hc0
  clear hc0
  generalize Nt.check n = ge at *
  have H03 := Lib.hid h03
  have Hk3 := Lib.hid hk3
  have H23 := Lib.hid h23
  clear h03 hk3 h23
  go_wp2_with fail
  go_ret
  exact ⟨by (rw [HE.out] <;> rfl), H03.out⟩
 have HC := Lib.hid hc0
 clear hc0
 have hpl : ∀ j (hj : j < n.nodes.length), n.nodes[j].p.length ≤ 1048576 := fun j hj => (Hok.out.2.2 _ (List.getElem_mem hj)).2.2.2.1
 obtain ⟨y0, y1, y2, y3, y4⟩ := case_five hk3
 have H03 := Lib.hid h03
 have Hk3 := Lib.hid hk3
 have H23 := Lib.hid h23
 have Hpl := Lib.hid hpl
 clear h03 hk3 h23 hpl
 go_wp2_with fail
 clear y0 y1 y2 y3 y4
 go_loopw [6, 26] (fun t i wx => ∃ k : Nat, k ≤ n.nodes.length ∧ i = .int .i64 (k : Int) ∧ t = .int .i64 (Pn.from_ n.nodes k : Int) ∧ Pn.from_ n.nodes k ≤ ps.length ∧ Pn.parOk ps (Nt.params n) (Pn.from_ n.nodes k) = true ∧ Later w3 wx) (fun _ i _ => n.nodes.length - (intOf i).toNat)
 case atStart => exact ⟨0, Nat.zero_le _, rfl, rfl, Nat.zero_le _, rfl, Later.refl _⟩
 case round =>
  obtain ⟨k, hk, rfl, rfl, hfl, hpo, hlx⟩ := hrel
  by_cases hlt : k < n.nodes.length
  ·obtain ⟨b, off, S, sc, J, ic, Q, qc, rfl, hNA, -, -, -⟩ := HR.out.2.at_ hlt
   have hnok := Hok.out.2.2 _ (List.getElem_mem hlt)
   have hpl := hnok.2.2.2.1
   have hps := hnok.2.2.2.2.1
   have hQi := hNA.2.2.2
   have hpa := fun m hm => Pn.params_at (ns := n.nodes) (m := m) hlt hm
   have hpb := fun m hm => Pn.params_lt (ns := n.nodes) (m := m) hlt hm
   have hfs := Pn.from_succ hlt
   generalize n.nodes[k] = v at *
   have hbw := H03.out.trans hlx
   obtain ⟨⟨y0, y1, y2, y3, y4, y5, y6, y7, y8, y9⟩, -⟩ := hNA.below hbw
   have hbn := hbw.alloc (.cells #[.int .i64 v.op.kind, .int .i64 v.op.k, .int .i64 v.op.width, .int .i64 v.op.step, .int .i64 v.op.side, .int .i64 v.op.frm, .int .i64 v.op.to, .slice S v.op.s.length sc, .slice J v.ins.length ic, .slice Q v.p.length qc] 47)
   have hln := hlx.alloc (.cells #[.int .i64 v.op.kind, .int .i64 v.op.k, .int .i64 v.op.width, .int .i64 v.op.step, .int .i64 v.op.side, .int .i64 v.op.frm, .int .i64 v.op.to, .slice S v.op.s.length sc, .slice J v.ins.length ic, .slice Q v.p.length qc] 47)
   have HNA := Lib.hid hNA
   have Hnok := Lib.hid hnok
   have HQi := Lib.hid hQi
   have Hps := Lib.hid hps
   have Hbw := Lib.hid hbw
   have Hlx := Lib.hid hlx
   have Hpa := Lib.hid hpa
   have Hpb := Lib.hid hpb
   have Hfs := Lib.hid hfs
   have Hpo := Lib.hid hpo
   have Hbn := Lib.hid hbn
   have Hln := Lib.hid hln
   clear hNA hnok hQi hps hbw hlx hpa hpb hfs hpo hbn hln
   go_wp2_with fail
   clear y0 y1 y2 y3 y4 y5 y6 y7 y8 y9
   generalize wr.alloc (.cells #[.int .i64 v.op.kind, .int .i64 v.op.k, .int .i64 v.op.width, .int .i64 v.op.step, .int .i64 v.op.side, .int .i64 v.op.frm, .int .i64 v.op.to, .slice S v.op.s.length sc, .slice J v.ins.length ic, .slice Q v.p.length qc] 47) = w4 at *
   generalize Pn.from_ n.nodes k = fr at *
   obtain ⟨wo, rfl⟩ : ∃ wo, wo = wr := ⟨wr, rfl⟩
   go_loopw [6, 33] (fun t i wx => ∃ m : Nat, m ≤ v.p.length ∧ i = .int .i64 (m : Int) ∧ t = .int .i64 ((fr + m : Nat) : Int) ∧ fr + m ≤ ps.length ∧ Pn.parOk ps (Nt.params n) (fr + m) = true ∧ Later w4 wx) (fun _ i _ => v.p.length - (intOf i).toNat)
   case atStart => exact ⟨0, Nat.zero_le _, rfl, rfl, hfl, Hpo.out, Later.refl _⟩
   case round =>
    obtain ⟨m, hm, rfl, rfl, hfm, hpm, hlm4⟩ := hrel
    have h0r := Hbn.out.trans hlm4
    obtain ⟨y0, y1, y2, y3, y4⟩ := case_five ((Hln.out.trans hlm4).blk Hk3.out)
    by_cases hlm : m < v.p.length
    ·obtain ⟨b5, o5, Ss, cs, rfl, -, hcs, hIs, hs1, hs2⟩ := (HQi.out.below h0r (Nat.le_refl _)) m hlm
     have hsl2 := Hps.out _ (List.getElem_mem hlm)
     have hat := Hpa.out m hlm
     have hlt2 := Hpb.out m hlm
     generalize v.p[m] = s at *
     by_cases hge : ps.length ≤ fr + m
     ·have HE := Lib.hid (Pn.fits_few (x := x) HC.out (show ps.length ≠ (Nt.params n).length by unfold Nt.params; omega))
      have q1 : ((fr + m : Nat) : Int) ≥ (ps.length : Int) := by omega
      have q2 : decide (((fr + m : Nat) : Int) ≥ (ps.length : Int)) = true := by simp; omega
      clear hge hat hlt2
      have H0r := Lib.hid h0r
      have Hlm4 := Lib.hid hlm4
      have Hpm := Lib.hid hpm
      have HIs := Lib.hid hIs
      clear h0r hlm4 hpm hIs
      go_wp2_with fail
      go_ret
      exact ⟨by (rw [HE.out] <;> rfl), H0r.out⟩
     have q1 : ((fr + m : Nat) : Int) < (ps.length : Int) := by omega
     have q0 : fr + m < ps.length := by omega
     have q2 : decide ((ps.length : Int) ≤ ((fr + m : Nat) : Int)) = false := by simp; omega
     obtain ⟨b6, o6, T', tc, C', cc, rfl, -, p0, p1, hT⟩ := (HP.out.later h0r).at_ q0
     have hbad := fun h => Pn.fits_bad (ps := ps) (x := x) (k := fr + m) HC.out hlt2 h
     have hgood := fun h => Pn.parOk_succ hpm h
     rw [show (Nt.params n).getD (fr + m) [] = s from hat] at hbad hgood
     clear hat hlt2 hge
     generalize Ly.got ps (fr + m) = t at *
     have hrg := right_14 T' C' tc cc Ss cs t s wr hT hIs (by omega)
     have H0r := Lib.hid h0r
     have Hlm4 := Lib.hid hlm4
     have Hpm := Lib.hid hpm
     have HIs := Lib.hid hIs
     have Hbad := Lib.hid hbad
     have Hgood := Lib.hid hgood
     have HT := Lib.hid hT
     clear h0r hlm4 hpm hIs hbad hgood hT
     cases htr : Pn.tenIs t s
     ·have HE := Lib.hid (Hbad.out htr)
      rw [htr] at hrg
      have Hrg := Lib.hid hrg
      clear hrg
      clear htr
      go_wp2_with fail
      refine (Hrg.out).mono ?_
      rintro e w5 ⟨rfl, hb5⟩
      go_wp2_with fail
      go_ret
      exact ⟨by (rw [HE.out] <;> rfl), H0r.out.call hb5⟩
     ·have hnx := Hgood.out htr
      rw [htr] at hrg
      have Hrg := Lib.hid hrg
      have Hnx := Lib.hid hnx
      clear hrg hnx
      clear htr
      go_wp2_with fail
      refine (Hrg.out).mono ?_
      rintro e w5 ⟨rfl, hb5⟩
      have h45 := Hlm4.out.call hb5
      clear hb5
      have H45 := Lib.hid h45
      clear h45
      go_wp2_with fail
      go_roundw
      case rel => exact ⟨m + 1, by omega, by go_num, by go_num, by omega, Hnx.out, H45.out⟩
      case measure => simp [intOf]; omega
    ·obtain rfl : m = v.p.length := by omega
     have hlz := Hln.out.trans hlm4
     have Hlz := Lib.hid hlz
     have Hpm := Lib.hid hpm
     have H0r := Lib.hid h0r
     clear hlz hpm h0r
     go_wp2_with fail
     go_roundw
     case rel => exact ⟨k + 1, by omega, by go_num, by rw [Hfs.out], by rw [Hfs.out]; exact hfm, by rw [Hfs.out]; exact Hpm.out, Hlz.out⟩
     case measure => simp [intOf]; omega
  ·obtain rfl : k = n.nodes.length := by omega
   rw [Pn.from_all] at hfl hpo ⊢
   have h0r := H03.out.trans hlx
   obtain ⟨y0, y1, y2, y3, y4⟩ := case_five (hlx.blk Hk3.out)
   have hpar : (n.nodes.flatMap (·.p)).length = (Nt.params n).length := rfl
   have hpo : Pn.parOk ps (Nt.params n) (Nt.params n).length = true := hpo
   rw [hpar] at hfl ⊢
   clear hpar
   by_cases hl : ps.length = (Nt.params n).length
   case neg =>
    have HE := Lib.hid (Pn.fits_few (x := x) HC.out hl)
    generalize (Nt.params n).length = pl at *
    have q2 : ((pl : Int) != (ps.length : Int)) = true := by simp; omega
    clear hl hpo
    have H0r := Lib.hid h0r
    have Hlx := Lib.hid hlx
    clear h0r hlx
    go_wp2_with fail
    go_ret
    exact ⟨by (rw [HE.out] <;> rfl), H0r.out⟩
   have he := Pn.fits_end (x := x) HC.out hl hpo
   have q2 : (((Nt.params n).length : Int) != (ps.length : Int)) = false := by simp; omega
   clear hpo hfl hl
   generalize (Nt.params n).length = pl at *
   have hrg := right_14 XS XC xc xd A c x n.inn wr (HX.out.later h0r) (HR.out.1.below h0r (Nat.le_refl _)) (by omega)
   have H0r := Lib.hid h0r
   have Hlx := Lib.hid hlx
   have He := Lib.hid he
   clear h0r hlx he
   cases htr : Pn.tenIs x n.inn
   ·have HE := Lib.hid (He.out.trans (by rw [htr] <;> rfl))
    rw [htr] at hrg
    have Hrg := Lib.hid hrg
    clear hrg
    clear htr He
    go_wp2_with fail
    refine (Hrg.out).mono ?_
    rintro e w5 ⟨rfl, hb5⟩
    go_wp2_with fail
    go_ret
    exact ⟨by (rw [HE.out] <;> rfl), H0r.out.call hb5⟩
   ·have HE := Lib.hid (He.out.trans (by rw [htr] <;> rfl))
    rw [htr] at hrg
    have Hrg := Lib.hid hrg
    clear hrg
    clear htr He
    go_wp2_with fail
    refine (Hrg.out).mono ?_
    rintro e w5 ⟨rfl, hb5⟩
    go_wp2_with fail
    go_ret
    exact ⟨by (rw [HE.out] <;> rfl), H0r.out.call hb5⟩
end Go.Proofs.YtbnnpkcfifejmabGreat
namespace Go.Proofs.YtbnnpkcfifejmabGreat
open Go.RowKit
namespace Ly
theorem joinedS_right {sd : Int} : ∀ {r : List Ten} {s : List Int}, (∀ t ∈ r, Tn.right t = true) → joinedS sd s r = Od.joinAll sd s (r.map Ten.s)
 | [], _, _ => rfl
 | t :: r, s, h => by
  unfold joinedS
  rw [if_pos (h t (by simp)), List.map_cons, Od.joinAll]
  split
  ·exact joinedS_right fun u hu => h u (by simp [hu])
  ·rfl
theorem got_map {x : List Ten} (h : 0 < x.length) : (x.map Ten.s).getD 0 [] = (got x 0).s := by
 cases x with
 | nil => simp at h
 | cons a r => rfl
theorem counts_zero {o : OpD} {p x : Int} (hr : Od.right o = true) (h1 : Od.least o ≤ x) (h2 : x ≤ Od.most o) (h3 : p = Od.params o) : Od.counts o p x = 0 := by
 unfold Od.counts
 rw [if_pos hr, if_neg]
 rintro (h | h | h) <;> omega
set_option maxHeartbeats 4000000 in
theorem go_good {o : OpD} {p x : List Ten} (hp : ∀ t ∈ p, Tn.right t = true) (hx : ∀ t ∈ x, Tn.right t = true) (h : (Od.shape o (p.map Ten.s) (x.map Ten.s)).2 = 0) : Od.counts o p.length x.length = 0 ∧ (lay o p x).2 = 0 := by
 obtain ⟨hr, h1, h2, h3, hsp, hsx, e⟩ := Od.shape_ok h
 rw [List.length_map] at h1 h2 h3
 have hc := counts_zero hr h1 h2 h3
 refine ⟨hc, ?_⟩
 rw [e] at h
 have hk := Od.right_kind hr
 have hl := Od.least_pos hr
 unfold Od.least Od.most at *
 unfold Od.params at h3
 rw [if_pos hr] at h1 h2 h3
 unfold Od.byKind at h
 have hcases : o.kind ≤ 7 ∨ o.kind = 8 ∨ o.kind = 9 ∨ o.kind = 10 ∨ o.kind = 11 ∨ o.kind = 12 ∨ o.kind = 13 ∨ o.kind = 14 ∨ o.kind = 15 := by omega
 rcases hcases with hk1 | hk1 | hk1 | hk1 | hk1 | hk1 | hk1 | hk1 | hk1
 ·have e : lay o p x = point o.kind o.k x := by unfold lay; rw [if_neg (by omega), if_neg (by omega), if_neg (by omega), if_neg (by omega), if_neg (by omega), if_neg (by omega), if_neg (by omega), if_neg (by omega)]
  rw [if_neg (by omega), if_neg (by omega), if_neg (by omega), if_neg (by omega), if_neg (by omega), if_neg (by omega), if_neg (by omega)] at h
  rw [if_pos hk1] at h1 h2
  rw [if_pos hr, if_pos hk1] at hl
  rw [e]
  unfold Od.same at h
  split at h
  ·rename_i hs
   have hx0 : 0 < x.length := by omega
   rw [got_map hx0] at hs
   simp only [List.all_eq_true, List.mem_map, decide_eq_true_eq] at hs
   have ha : ptAgree o.kind x = 0 := by
    unfold ptAgree
    rw [if_neg (by omega), if_neg (by omega), if_pos]
    simp only [List.all_eq_true, Bool.and_eq_true, decide_eq_true_eq]
    exact fun t ht => ⟨hx t ht, hs _ ⟨t, ht, rfl⟩⟩
   unfold point
   rw [if_pos ha]
  ·simp at h
 ·obtain ⟨a, b, rfl⟩ := two_of (l := p) (by simp [hk1] at h3; omega)
  obtain ⟨t, rfl⟩ := one_of (l := x) (by simp [hk1] at h1 h2; omega)
  have e : lay o [a, b] [t] = dense a b t := by unfold lay; rw [if_pos hk1]; rfl
  rw [if_pos hk1] at h
  rw [e]
  unfold Od.dense at h
  simp only [List.map_cons, List.map_nil, List.getD_cons_zero, List.getD_cons_succ] at h
  split at h
  ·rename_i hd
   obtain ⟨d1, d2, d3, d4, d5⟩ := hd
   have ra := hp a (by simp)
   have rb := hp b (by simp)
   have rt := hx t (by simp)
   unfold dense
   rw [if_pos]
   simp only [denseOk, Bool.and_eq_true, decide_eq_true_eq]
   refine ⟨⟨⟨⟨⟨ra, d1⟩, rb⟩, rt⟩, ?_⟩, ?_⟩
   ·match hb : b.s, d2 with
    | [z], _ => rw [hb] at d3; simp at d3; unfold at_; rw [d3]; simp
   ·rw [(right_s rt).2, d5]; rfl
  ·simp at h
 ·obtain ⟨b, rfl⟩ := one_of (l := p) (by simp [hk1] at h3; omega)
  obtain ⟨t, rfl⟩ := one_of (l := x) (by simp [hk1] at h1 h2; omega)
  have e : lay o [b] [t] = add t b := by unfold lay; rw [if_neg (by omega), if_pos hk1]; rfl
  rw [if_neg (by omega), if_pos hk1] at h
  rw [e]
  unfold Od.same at h
  split at h
  ·rename_i hs
   simp at hs
   unfold add
   rw [if_pos]
   simp only [alike, Bool.and_eq_true, decide_eq_true_eq]
   exact ⟨⟨hx t (by simp), hp b (by simp)⟩, hs⟩
  ·simp at h
 ·obtain ⟨b, rfl⟩ := one_of (l := p) (by simp [hk1] at h3; omega)
  obtain ⟨t, rfl⟩ := one_of (l := x) (by simp [hk1] at h1 h2; omega)
  have e : lay o [b] [t] = conv b t o.step := by unfold lay; rw [if_neg (by omega), if_neg (by omega), if_pos hk1]; rfl
  rw [if_neg (by omega), if_neg (by omega), if_pos hk1] at h
  rw [e]
  have hce : convErr b t o.step = 0 := by
   unfold convErr
   rw [if_pos (by simp [hp b (by simp), hx t (by simp)])]
   exact h
  unfold conv
  rw [if_pos hce]
 ·obtain rfl := none_of (l := p) (by rw [if_neg (by omega), if_neg (by omega)] at h3; omega)
  obtain ⟨t, rfl⟩ := one_of (l := x) (by simp [hk1] at h1 h2; omega)
  have e : lay o [] [t] = pool true t o.width o.step := by unfold lay; rw [if_neg (by omega), if_neg (by omega), if_neg (by omega), if_pos hk1]; rfl
  rw [if_neg (by omega), if_neg (by omega), if_neg (by omega), if_pos (by omega)] at h
  rw [e]
  have hce : poolErr t o.width o.step = 0 := by
   unfold poolErr
   rw [if_pos (hx t (by simp))]
   exact h
  unfold pool
  rw [if_pos hce]
 ·obtain rfl := none_of (l := p) (by rw [if_neg (by omega), if_neg (by omega)] at h3; omega)
  obtain ⟨t, rfl⟩ := one_of (l := x) (by simp [hk1] at h1 h2; omega)
  have e : lay o [] [t] = pool false t o.width o.step := by unfold lay; rw [if_neg (by omega), if_neg (by omega), if_neg (by omega), if_neg (by omega), if_pos hk1]; rfl
  rw [if_neg (by omega), if_neg (by omega), if_neg (by omega), if_pos (by omega)] at h
  rw [e]
  have hce : poolErr t o.width o.step = 0 := by
   unfold poolErr
   rw [if_pos (hx t (by simp))]
   exact h
  unfold pool
  rw [if_pos hce]
 ·obtain rfl := none_of (l := p) (by rw [if_neg (by omega), if_neg (by omega)] at h3; omega)
  have e : lay o [] x = join o.side x := by unfold lay; rw [if_neg (by omega), if_neg (by omega), if_neg (by omega), if_neg (by omega), if_neg (by omega), if_pos hk1]
  rw [if_neg (by omega), if_neg (by omega), if_neg (by omega), if_neg (by omega), if_pos (by omega)] at h
  rw [e]
  have hje : (joined o.side x).2 = 0 := by
   match x, h1 with
   | t :: r, _ =>
    unfold joined
    simp only
    rw [if_pos (hx t (by simp))]
    unfold Od.joined at h
    split at h
    ·simp at h
    ·rename_i hcn
     rw [if_neg, joinedS_right fun u hu => hx u (by simp [hu])]
     ·exact h
     ·rintro ⟨hl0, hi⟩
      refine hcn ⟨by simpa using hl0, ?_⟩
      simp [Od.inR]
      omega
   | [], h1 => simp at h1; omega
  unfold join
  rw [if_pos hje]
 ·obtain rfl := none_of (l := p) (by rw [if_neg (by omega), if_neg (by omega)] at h3; omega)
  obtain ⟨t, rfl⟩ := one_of (l := x) (by simp [hk1] at h1 h2; omega)
  have e : lay o [] [t] = cut t o.side o.frm o.to := by unfold lay; rw [if_neg (by omega), if_neg (by omega), if_neg (by omega), if_neg (by omega), if_neg (by omega), if_neg (by omega), if_pos hk1]; rfl
  rw [if_neg (by omega), if_neg (by omega), if_neg (by omega), if_neg (by omega), if_neg (by omega), if_pos (by omega)] at h
  rw [e]
  unfold cut
  have h : (Od.cut t.s o.side o.frm o.to).2 = 0 := h
  rw [if_pos (hx t (by simp)), if_pos h]
 ·obtain rfl := none_of (l := p) (by rw [if_neg (by omega), if_neg (by omega)] at h3; omega)
  obtain ⟨t, rfl⟩ := one_of (l := x) (by simp [hk1] at h1 h2; omega)
  have e : lay o [] [t] = turn t o.s := by unfold lay; rw [if_neg (by omega), if_neg (by omega), if_neg (by omega), if_neg (by omega), if_neg (by omega), if_neg (by omega), if_neg (by omega), if_pos hk1]; rfl
  rw [if_neg (by omega), if_neg (by omega), if_neg (by omega), if_neg (by omega), if_neg (by omega), if_neg (by omega), if_pos (by omega)] at h
  rw [e]
  unfold Od.turned at h
  split at h
  ·rename_i hs
   simp at hs
   have rt := hx t (by simp)
   unfold turn of_
   rw [if_pos rt, if_pos]
   simp only [Tn.right, Bool.and_eq_true, decide_eq_true_eq]
   exact ⟨hs.1.2, by rw [(right_s rt).2, hs.2]⟩
  ·simp at h
theorem addAt_foldl_len (f : Touch → Nat) (g : Touch → Int) : ∀ (ts : List Touch) (l : List Int), (ts.foldl (fun o t => addAt o (f t) (g t)) l).length = l.length
 | [], _ => rfl
 | t :: ts, l => by rw [List.foldl_cons, addAt_foldl_len f g ts, addAt_len]
theorem right_of {s c : List Int} (h1 : Sh.right s = true) (h2 : (c.length : Int) = Safe.prod s) : Tn.right ⟨s, c⟩ = true := by simp [Tn.right, h1, h2]
theorem span_prod {s : List Int} (h : Sh.right s = true) : (span s : Int) = Safe.prod s := by
 obtain ⟨_, _, _, _, h1, _⟩ := Sh.right_mul h
 unfold span
 omega
theorem cut_lay {x : Ten} {sd frm til : Int} (h : (cut x sd frm til).2 = 0) (hrs : Sh.right (cut x sd frm til).1.s = true) : Tn.right (cut x sd frm til).1 = true := by
 by_cases hr : Tn.right x = true
 case neg => rw [cut_right (by simpa using hr)] at h; simp at h
 by_cases hc : (Od.cut x.s sd frm til).2 = 0
 case neg => rw [cut_err hr hc] at h; exact absurd h hc
 obtain ⟨k, S, f, t, inner, pre, e1, e2, e3, hk, hS, hft, htS, hS2, hin, hpre, hset, hdr, hprod, hlen, -, -, -⟩ := cut_facts hr hc
 rw [cut_ok hr hc] at hrs ⊢
 refine right_of hrs ?_
 have h1 : side x.s sd.toNat = S := by unfold side at_; rw [e1, Int.toNat_natCast, hS, Int.toNat_natCast]
 have h2 : span ((Od.cut x.s sd frm til).1.drop (sd.toNat + 1)) = inner := by unfold span; rw [hset, e1, Int.toNat_natCast, hdr, Int.toNat_natCast]
 have hpos : 0 < S * inner := Nat.mul_pos (by omega) (by omega)
 rw [h1, h2, hlen, Nat.mul_div_cancel _ hpos, rows_len, hset, hprod, e2, e3, Int.toNat_natCast, Int.toNat_natCast]
 intro i hi
 rw [e2, e3, Int.toNat_natCast, Int.toNat_natCast, hlen]
 have a1 : f * inner + (t - f) * inner ≤ S * inner := by rw [← Nat.add_mul]; exact Nat.mul_le_mul_right _ (by omega)
 have a2 : (i + 1) * (S * inner) ≤ pre * (S * inner) := Nat.mul_le_mul_right _ (by omega)
 rw [Nat.succ_mul] at a2
 omega
set_option maxHeartbeats 4000000 in
theorem lay_right {o : OpD} {p x : List Ten} (hc : Od.counts o p.length x.length = 0) (h : (lay o p x).2 = 0) : Tn.right (lay o p x).1 = true := by
 have hs := lay_shape hc h
 have hrs : Sh.right (lay o p x).1.s = true := by
  have := Od.shape_right (by rw [hs])
  rw [hs] at this
  exact this
 clear hs
 obtain ⟨hr, h1, h2, h3⟩ := counts_ok hc
 have hk := Od.right_kind hr
 unfold lay at h hrs ⊢
 split at h
 ·rename_i hk1
  rw [if_pos hk1] at hrs ⊢
  unfold dense at h hrs ⊢
  split at h
  ·rename_i hd
   rw [if_pos hd] at hrs ⊢
   simp only [denseOk, Bool.and_eq_true, decide_eq_true_eq] at hd
   refine right_of hrs ?_
   rw [tab_len]
   exact (right_s hd.1.1.1.2).2
  ·simp at h
 ·rename_i n8
  rw [if_neg n8] at hrs ⊢
  split at h
  ·rename_i hk1
   rw [if_pos hk1] at hrs ⊢
   unfold add at h hrs ⊢
   split at h
   ·rename_i hd
    rw [if_pos hd] at hrs ⊢
    simp only [alike, Bool.and_eq_true, decide_eq_true_eq] at hd
    refine right_of hrs ?_
    rw [tab_len]
    exact (right_s hd.1.1).2
   ·simp at h
  ·rename_i n9
   rw [if_neg n9] at hrs ⊢
   split at h
   ·rename_i hk1
    rw [if_pos hk1] at hrs ⊢
    unfold conv at h hrs ⊢
    split at h
    ·rename_i hd
     rw [if_pos hd] at hrs ⊢
     refine right_of hrs ?_
     unfold convC
     rw [addAt_foldl_len, zeros_len]
     exact span_prod hrs
    ·rename_i hd; exact absurd h hd
   ·rename_i n10
    rw [if_neg n10] at hrs ⊢
    split at h
    ·rename_i hk1
     rw [if_pos hk1] at hrs ⊢
     unfold pool at h hrs ⊢
     split at h
     ·rename_i hd
      rw [if_pos hd] at hrs ⊢
      refine right_of hrs ?_
      rw [tab_len]
      exact span_prod hrs
     ·rename_i hd; exact absurd h hd
    ·rename_i n11
     rw [if_neg n11] at hrs ⊢
     split at h
     ·rename_i hk1
      rw [if_pos hk1] at hrs ⊢
      unfold pool at h hrs ⊢
      split at h
      ·rename_i hd
       rw [if_pos hd] at hrs ⊢
       refine right_of hrs ?_
       rw [tab_len]
       exact span_prod hrs
      ·rename_i hd; exact absurd h hd
     ·rename_i n12
      rw [if_neg n12] at hrs ⊢
      split at h
      ·rename_i hk1
       rw [if_pos hk1] at hrs ⊢
       by_cases hj : (joined o.side x).2 = 0
       case neg => rw [join_err hj] at h; exact absurd h hj
       rw [join_ok hj] at hrs ⊢
       refine right_of hrs ?_
       obtain ⟨k, rows, inner, q0, q1, q2, q3, q4, q5, q6, q7, q8, q9, q10⟩ := joined_rows hj
       have q11 : o.side.toNat = k := by omega
       show ((joinC _ _ _).length : Int) = Safe.prod (joined o.side x).1
       rw [q11, q4, joinC_len (Nat.le_refl _), q10, Int.natCast_mul, wsum_eq q6 q9]
      ·rename_i n13
       rw [if_neg n13] at hrs ⊢
       split at h
       ·rename_i hk1
        rw [if_pos hk1] at hrs ⊢
        exact cut_lay h hrs
       ·rename_i n14
        rw [if_neg n14] at hrs ⊢
        split at h
        ·rename_i hk1
         rw [if_pos hk1] at hrs ⊢
         unfold turn of_ at h ⊢
         split at h
         ·rename_i hd
          rw [if_pos hd]
          split at h
          ·rename_i hd2; rw [if_pos hd2]; exact hd2
          ·simp at h
         ·simp at h
        ·rename_i n15
         rw [if_neg n15] at hrs ⊢
         unfold point at h hrs ⊢
         split at h
         ·rename_i hd
          rw [if_pos hd] at hrs ⊢
          refine right_of hrs ?_
          rw [tab_len]
          unfold ptAgree at hd
          split at hd
          ·simp at hd
          ·split at hd
           ·simp at hd
           ·split at hd
            ·rename_i g1 g2 hall
             simp only [List.all_eq_true, Bool.and_eq_true, decide_eq_true_eq] at hall
             have hx1 : 0 < x.length := by
              rcases Nat.eq_zero_or_pos x.length with h0 | h0
              ·simp [h0] at g2; omega
              ·exact h0
             have : got x 0 ∈ x := by rw [got_at hx1]; exact List.getElem_mem hx1
             exact (right_s (hall _ this).1).2
            ·simp at hd
         ·rename_i hd; exact absurd h hd
end Ly
end Go.Proofs.YtbnnpkcfifejmabGreat
namespace Go.Proofs.YtbnnpkcfifejmabGreat
open Go.RowKit
namespace Pn
theorem par_map {ps : List Ten} {ss : List (List Int)} (hl : ps.length = ss.length) (h : parOk ps ss ss.length = true) : ps.map Ten.s = ss ∧ ∀ t ∈ ps, Tn.right t = true := by
 have key : ∀ i (hi : i < ps.length), Tn.right ps[i] = true ∧ ps[i].s = ss[i]'(by omega) := fun i hi => by
  have := List.all_eq_true.1 h i (List.mem_range.2 (by omega))
  have h2 := tenIs_ok this
  rw [got_at hi, List.getD_eq_getElem?_getD, List.getElem?_eq_getElem (by omega)] at h2
  exact h2
 refine ⟨List.ext_getElem (by simp [hl]) fun i h1 h2 => ?_, fun t ht => ?_⟩
 ·rw [List.getElem_map]; exact (key i (by simpa using h1)).2
 ·obtain ⟨i, hi, rfl⟩ := List.getElem_of_mem ht
  exact (key i hi).1
theorem params_part {ns : List NodeD} {k : Nat} (h : k < ns.length) : ((ns.flatMap (·.p)).drop (from_ ns k)).take ns[k].p.length = ns[k].p := by
 have e : ns.flatMap (·.p) = (ns.take k).flatMap (·.p) ++ (ns[k].p ++ (ns.drop (k + 1)).flatMap (·.p)) := by
  rw [← List.flatMap_cons, ← List.drop_eq_getElem_cons h, ← List.flatMap_append, List.take_append_drop]
 rw [e]
 unfold from_
 rw [List.drop_left, List.take_left]
theorem parts_good {n : NetD} {ps : List Ten} (hm : ps.map Ten.s = Nt.params n) (hr : ∀ t ∈ ps, Tn.right t = true) {id : Int} (h1 : 1 ≤ id) (h2 : id ≤ n.nodes.length) :
  (parts n ps id).map Ten.s = (Nt.node n.nodes id).p ∧ (∀ t ∈ parts n ps id, Tn.right t = true) ∧ (parts n ps id).length = (Nt.node n.nodes id).p.length := by
 obtain ⟨hk, e⟩ := Nt.node_in ⟨h1, h2⟩
 have ek : (id - 1).toNat = id.toNat - 1 := by omega
 have key : (parts n ps id).map Ten.s = (Nt.node n.nodes id).p := by
  unfold parts
  rw [List.map_take, List.map_drop, hm, e]
  simp only [ek]
  exact params_part (by omega)
 refine ⟨key, fun t ht => hr t (List.mem_of_mem_drop (List.mem_of_mem_take ht)), ?_⟩
 rw [← key, List.length_map]
theorem got_set_eq {l : List Ten} {k : Nat} {t : Ten} (h : k < l.length) : Ly.got (l.set k t) k = t := by
 unfold Ly.got; rw [List.getD_eq_getElem?_getD, List.getElem?_set_self h]; rfl
theorem got_set_ne {l : List Ten} {k j : Nat} {t : Ten} (h : k ≠ j) : Ly.got (l.set k t) j = Ly.got l j := by
 unfold Ly.got; rw [List.getD_eq_getElem?_getD, List.getD_eq_getElem?_getD, List.getElem?_set_ne h]
theorem got_s {l : List Ten} (i : Nat) : (l.map Ten.s).getD i [] = (Ly.got l i).s := by
 unfold Ly.got
 simp only [List.getD_eq_getElem?_getD, List.getElem?_map]
 cases l[i]? <;> rfl
theorem pick_map (vals : List Ten) (ins : List Int) : (pickT vals ins).map Ten.s = Nt.pick (vals.map Ten.s) ins := by
 unfold pickT Nt.pick
 rw [List.map_map]
 exact List.map_congr_left fun i _ => (got_s i.toNat).symm
theorem pick_set {vals : List Ten} {ins : List Int} {u : Int} {t : Ten} (hu : 1 ≤ u) (h : ∀ i ∈ ins, i ≠ u ∧ 0 ≤ i) : pickT (vals.set u.toNat t) ins = pickT vals ins := by
 unfold pickT
 refine List.map_congr_left fun i hi => got_set_ne ?_
 have := h i hi
 omega
structure Done (n : NetD) (ps : List Ten) (x : Ten) (a : List Int) (vals : List Ten) : Prop where
 len : vals.length = n.nodes.length + 1
 lay0 : Nt.lay n.nodes (Nt.start n) a = (vals.map Ten.s, 0)
 zero : Ly.got vals 0 = x
 right : ∀ i : Int, i = 0 ∨ i ∈ a → Tn.right (Ly.got vals i.toNat) = true
 step : ∀ id ∈ a, Pn.step n ps vals id = (Ly.got vals id.toNat, 0)
theorem done_next {n : NetD} {ps : List Ten} {x : Ten} (hc : Nt.check n = 0) (hm : ps.map Ten.s = Nt.params n) (hr : ∀ t ∈ ps, Tn.right t = true) {a b : List Int} {u : Int} {vals : List Ten} (hs : Nt.sorted n.nodes = a ++ u :: b) (h : Done n ps x a vals) :
  (Pn.step n ps vals u).2 = 0 ∧ Done n ps x (a ++ [u]) (vals.set u.toNat (Pn.step n ps vals u).1) := by
 obtain ⟨c1, c2, c3, c4, c5, c6, c7, c8⟩ := Nt.check_ok hc
 have hrng : ∀ v ∈ Nt.sorted n.nodes, 1 ≤ v ∧ v ≤ n.nodes.length := Kn.order_rng _ _
 have hnd : (Nt.sorted n.nodes).Nodup := (Kn.go_ok _ _ _).nodup
 have hu := hrng u (by rw [hs]; simp)
 have hbe : ∀ i ∈ Nt.insF n.nodes u, i = 0 ∨ i ∈ a := Kn.order_behind _ _ hs
 have hnot : u ∉ a := by
  rw [hs, List.nodup_append] at hnd
  intro hm
  exact hnd.2.2 u hm u (by simp) rfl
 have ha0 : ∀ i : Int, i = 0 ∨ i ∈ a → 0 ≤ i ∧ i ≠ u := fun i hi => by
  rcases hi with rfl | hi
  ·omega
  ·have := hrng i (by rw [hs]; simp [hi])
   exact ⟨by omega, fun e => hnot (e ▸ hi)⟩
 obtain ⟨p1, p2, p3⟩ := parts_good hm hr hu.1 hu.2
 have hlay : (Nt.layStep n.nodes (vals.map Ten.s) u).2 = 0 := by
  have c := c6
  rw [hs, Nt.lay_append, h.lay0] at c
  simp only [if_true] at c
  unfold Nt.lay at c
  split at c
  ·assumption
  ·rename_i hb; exact absurd c hb
 have hpick : ∀ t ∈ pickT vals (Nt.node n.nodes u).ins, Tn.right t = true := fun t ht => by
  obtain ⟨i, hi, rfl⟩ := List.mem_map.1 ht
  exact h.right i (hbe i hi)
 have hshape : Od.shape (Nt.node n.nodes u).op ((parts n ps u).map Ten.s) ((pickT vals (Nt.node n.nodes u).ins).map Ten.s) = Nt.layStep n.nodes (vals.map Ten.s) u := by
  rw [p1, pick_map]; rfl
 obtain ⟨g1, g2⟩ := Ly.go_good p2 hpick (by rw [hshape]; exact hlay)
 have hstep : Pn.step n ps vals u = Ly.lay (Nt.node n.nodes u).op (parts n ps u) (pickT vals (Nt.node n.nodes u).ins) := Ly.go_lay g1
 have hsh := Ly.lay_shape g1 g2
 have hri := Ly.lay_right g1 g2
 rw [← hstep] at g2 hsh hri
 rw [hshape] at hsh
 have hul : u.toNat < vals.length := by rw [h.len]; omega
 refine ⟨g2, by rw [List.length_set]; exact h.len, ?_, ?_, ?_, ?_⟩
 ·rw [Nt.lay_snoc h.lay0 hlay, hsh, List.map_set]
 ·rw [got_set_ne (by omega)]; exact h.zero
 ·intro i hi
  by_cases e : i = u
  ·subst e; rw [got_set_eq hul]; exact hri
  ·have hi2 : i = 0 ∨ i ∈ a := by
    rcases hi with hi | hi
    ·exact .inl hi
    ·rcases List.mem_append.1 hi with hi | hi
     ·exact .inr hi
     ·simp at hi; exact absurd hi e
   have := ha0 i hi2
   rw [got_set_ne (by omega)]
   exact h.right i hi2
 ·intro v hv
  have hins : ∀ i ∈ (Nt.node n.nodes v).ins, i ≠ u ∧ 0 ≤ i := fun i hi => by
   rcases List.mem_append.1 hv with hv | hv
   ·obtain ⟨a1, a2, ea⟩ := List.append_of_mem hv
    have hs2 : Kn.order (Nt.insF n.nodes) n.nodes.length = a1 ++ v :: (a2 ++ u :: b) := by
     show Nt.sorted n.nodes = _
     rw [hs, ea]; simp
    have hb2 : ∀ i ∈ Nt.insF n.nodes v, i = 0 ∨ i ∈ a1 := Kn.order_behind _ _ hs2
    have h3 : i = 0 ∨ i ∈ a := by
     rcases hb2 i hi with h4 | h4
     ·exact .inl h4
     ·exact .inr (by rw [ea]; simp [h4])
    exact (ha0 i h3).symm
   ·simp at hv; subst hv
    exact (ha0 i (hbe i hi)).symm
  have e1 : Pn.step n ps (vals.set u.toNat (Pn.step n ps vals u).1) v = Pn.step n ps vals v := by
   show Ly.go _ _ (pickT _ _) = Ly.go _ _ (pickT _ _)
   rw [pick_set hu.1 hins]
  rw [e1]
  by_cases e : v = u
  ·subst e
   rw [got_set_eq hul]
   exact Prod.ext rfl g2
  ·have hva : v ∈ a := by
    rcases List.mem_append.1 hv with hv | hv
    ·exact hv
    ·simp at hv; exact absurd hv e
   have := ha0 v (.inr hva)
   have h1 := hrng v (by rw [hs]; simp [hva])
   rw [got_set_ne (by omega)]
   exact h.step v hva
theorem done_all {n : NetD} {ps : List Ten} {x : Ten} (hc : Nt.check n = 0) (hm : ps.map Ten.s = Nt.params n) (hr : ∀ t ∈ ps, Tn.right t = true) : ∀ (b a : List Int) (vals : List Ten), Nt.sorted n.nodes = a ++ b → Done n ps x a vals → ∃ out, fwd n ps vals b = (out, 0) ∧ Done n ps x (a ++ b) out
 | [], a, vals, _, h => ⟨vals, rfl, by rw [List.append_nil]; exact h⟩
 | u :: b, a, vals, hs, h => by
  obtain ⟨h1, h2⟩ := done_next hc hm hr hs h
  obtain ⟨out, h3, h4⟩ := done_all hc hm hr b (a ++ [u]) _ (by rw [hs]; simp) h2
  refine ⟨out, ?_, by rw [List.append_assoc] at h4; exact h4⟩
  unfold fwd
  rw [if_pos h1]
  exact h3
theorem forward_good {n : NetD} {ps : List Ten} {x : Ten} (h : fits n ps x = 0) :
  ∃ vals, forward n ps x = (vals, 0) ∧ vals.length = n.nodes.length + 1 ∧ Ly.got vals 0 = x ∧ vals.map Ten.s = Nt.shapes n ∧ ∀ id : Int, 1 ≤ id → id ≤ n.nodes.length → step n ps vals id = (Ly.got vals id.toNat, 0) := by
 obtain ⟨hc, hl, hp, hx⟩ := fits_ok h
 obtain ⟨hm, hr⟩ := par_map hl hp
 obtain ⟨hxr, hxs⟩ := tenIs_ok hx
 obtain ⟨c1, c2, c3, c4, c5, c6, c7, c8⟩ := Nt.check_ok hc
 have h0 : Done n ps x [] (x :: List.replicate n.nodes.length Ly.none_) := ⟨by simp, by simp [Nt.lay, Nt.start, hxs, Ly.none_], rfl, fun i hi => by
  rcases hi with rfl | hi
  ·exact hxr
  ·simp at hi, by simp⟩
 obtain ⟨out, h1, h2⟩ := done_all hc hm hr (Nt.sorted n.nodes) [] _ rfl h0
 refine ⟨out, ?_, h2.len, h2.zero, ?_, fun id a b => h2.step id ?_⟩
 ·unfold forward
  rw [if_neg (by omega)]
  exact h1
 ·have := h2.lay0
  rw [List.nil_append] at this
  unfold Nt.shapes
  rw [this]
 ·rw [List.nil_append]
  exact (Kn.order_full c5 id).2 ⟨a, b⟩
end Pn
end Go.Proofs.YtbnnpkcfifejmabGreat
namespace Go.Proofs.YtbnnpkcfifejmabGreat
open Go.RowKit
theorem tns_sliced {w : World} {P : Option Addr} {ps : List Ten} {cp fr tl : Nat} (hP : Tns w P ps) (kP : ps.length ≤ cp) (nP : P = none → cp = 0) (h1 : fr ≤ tl) (h2 : tl ≤ ps.length) :
  Tns w (if cp = fr then P else P.map fun a => a.add (fr * 2)) ((ps.drop fr).take (tl - fr)) := by
 by_cases he : fr = tl
 ·subst he
  rw [Nat.sub_self, List.take_zero]
  exact Tns.nil _ _
 ·rw [if_neg (by omega)]
  obtain ⟨b, off, S, c, C, d, rfl, -⟩ := hP 0 (by omega)
  have := hP.part fr (tl - fr)
  simpa [addr_add] using this
theorem ownsRow_later {w w' : World} {B e s n : Nat} {v : Value} {xs : List Value} (h : w.ownsRow B e s v n xs) (hl : Later w w') : w'.ownsRow B e s v n xs := ownsRow_heap h fun g k => hl.block g (h.lt g k).2
theorem part_bound {n : NetD} {ps : List Ten} (id : Int) (hl : ps.length = (Nt.params n).length) : ∃ fr tl : Nat, Pn.part n id = ((fr : Int), (tl : Int)) ∧ fr ≤ tl ∧ tl ≤ ps.length := by
 unfold Pn.part
 split
 ·exact ⟨0, 0, rfl, Nat.le_refl _, Nat.zero_le _⟩
 ·rename_i h
  have hk : id.toNat - 1 < n.nodes.length := by omega
  refine ⟨_, _, rfl, ?_, ?_⟩
  ·have := Pn.from_succ hk
   rw [show id.toNat - 1 + 1 = id.toNat by omega] at this
   omega
  ·rw [hl]; exact Pn.from_le
def OfLenP (m : Nat) (w : World) (e : Ending) (w' : World) : Prop := ∃ A c, e = .returned (.slice A m c) ∧ Below w.heap.size w w'
set_option maxHeartbeats 16000000 in
set_option maxRecDepth 20000 in
theorem plain_of (A N P : Option Addr) (c d cp : Nat) (n : NetD) (ps : List Ten) (id : Int) (w : World) (hok : n.ok) (hR : NetR w A N n) (hd : n.nodes.length ≤ d) (hP : Tns w P ps) (lP : ps.length ≤ 1048576) (kP : ps.length ≤ cp) (mP : cp ≤ 9223372036854775807) (nP : P = none → cp = 0) (hl : ps.length = (Nt.params n).length) (hi1 : -9223372036854775808 ≤ id) (hi2 : id ≤ 9223372036854775807)
  (hsm : ∀ t ∈ ps, t.s.length ≤ 1000000 ∧ t.c.length ≤ 1000000) :
  Calls Tryz.prog 10 #[.agg #[.slice A n.inn.length c, .slice N n.nodes.length d], .slice P ps.length cp, .int .i64 id] w (OfLenP ((Pn.part n id).2.toNat - (Pn.part n id).1.toNat) w) := by
 have hk := Blk.new w 26 #[.slice A n.inn.length c, .slice N n.nodes.length d]
 have h01 : Later w (w.alloc (.cells #[.slice A n.inn.length c, .slice N n.nodes.length d] 26)) := (Later.refl w).alloc _
 obtain ⟨fr, tl, hpt, h1, h2⟩ := part_bound id hl
 have hpc := plain_part A N c d n id (w.alloc (.cells #[.slice A n.inn.length c, .slice N n.nodes.length d] 26)) hok (hR.below h01 (Nat.le_refl _)) hd hi1 hi2
 rw [hpt] at hpc ⊢
 clear hl
 have Hk := Lib.hid hk
 have H01 := Lib.hid h01
 have HP := Lib.hid hP
 have Hpc := Lib.hid hpc
 have Hpt := Lib.hid hpt
 have HnP := Lib.hid nP
 have Hsm := Lib.hid hsm
 clear hk h01 hP hpc hpt nP hsm
 go_enter Tryz.func10, Tryz.ntmps10
 go_upto_region 1 with fail
 generalize w.alloc (.cells #[.slice A n.inn.length c, .slice N n.nodes.length d] 26) = w1 at *
 have x0 : w1.cell? ⟨w.heap.size, 0, none⟩ = _ := Hk.out.cell 0
 have x1 : w1.cell? ⟨w.heap.size, 1, none⟩ = _ := Hk.out.cell 1
 simp at x0 x1
 go_wp2_with fail
 refine (Hpc.out).mono ?_
 rintro e w2 ⟨rfl, hb2⟩
 have h02 := H01.out.call hb2
 clear x0 x1 hb2
 have u0 : (tl : Int) ≤ (ps.length : Int) := by omega
 have u1 : (fr : Int) ≤ (tl : Int) := by omega
 have u2 : (tl : Int) ≤ (cp : Int) := by omega
 have u3 : (tl : Int) - (fr : Int) = ((tl - fr : Nat) : Int) := by omega
 have hT2 := tns_sliced (HP.out.later h02) kP HnP.out h1 h2
 obtain ⟨i0, hi, hy0, hy1, hy2⟩ := info_parts tenY_info
 have H02 := Lib.hid h02
 have HT2 := Lib.hid hT2
 have Hu3 := Lib.hid u3
 clear h02 hT2 u3
 go_upto_region 4 with fail
 have hq : IntKind.i64.wrap ((tl : Int) - (fr : Int)) = ((tl - fr : Nat) : Int) := by rw [Hu3.out]; exact IntWalk.i64_in _ (by omega)
 go_wp2_with (at_make; refine wpList_make_own _ rfl _ _ 27 rfl w2.heap.size 30 i0 (.agg #[.slice none 0 0, .slice none 0 0]) 2 Tryz.underlying27 hi hy0 hy1 _ _ _ (tl - fr) rfl rfl (by first | rfl | (simp; done) | omega | (simp; omega)) ?b2 ?b3 ?b4 ?_)
 case b2 => rw [hy2]; omega
 case b3 => unfold maxLen; omega
 case b4 => exact Nat.le_refl _
 intro w3 hown hgrow
 have h23 : Later w2 w3 := (Later.refl w2).grown hgrow (Nat.le_refl _) (by simp)
 have hown0 : w3.ownsRow w2.heap.size 30 2 (.slice (some ⟨w2.heap.size, 0, none⟩) 0 (tl - fr)) 0 [] := by simpa using hown
 have hql : ((ps.drop fr).take (tl - fr)).length = tl - fr := by rw [List.length_take, List.length_drop]; omega
 have hqs : ∀ t ∈ (ps.drop fr).take (tl - fr), t.s.length ≤ 1000000 ∧ t.c.length ≤ 1000000 := fun t ht => Hsm.out t (List.mem_of_mem_drop (List.mem_of_mem_take ht))
 have hf3 : (Pn.part n id).2.toNat - (Pn.part n id).1.toNat = tl - fr := by rw [Hpt.out]; simp
 clear hown hgrow hq
 have H23 := Lib.hid h23
 have Hown0 := Lib.hid hown0
 have Hqs := Lib.hid hqs
 have Hf3 := Lib.hid hf3
 clear h23 hown0 hqs hf3
 go_upto_region 5 with fail
 go_cut [29, 30, 31] (fun v a b wx => w3 = wx ∧ a = .int .i64 ((tl - fr : Nat) : Int) ∧ b = .int .i64 0 ∧ ∃ Q cq, v = .slice Q (tl - fr) cq ∧ Tns w2 Q ((ps.drop fr).take (tl - fr)))
 case first =>
  have hTn := HT2.out
  by_cases hcf : cp = fr
  ·have u9 : (cp = fr) = True := eq_true hcf
   rw [if_pos hcf] at hTn
   clear hcf
   have HTn := Lib.hid hTn
   clear hTn
   go_wp2_with fail
   all_goals (go_meet; exact ⟨rfl, rfl, rfl, _, _, rfl, HTn.out⟩)
  ·have u9 : (cp = fr) = False := eq_false hcf
   rw [if_neg hcf] at hTn
   have u8 : fr < cp := by omega
   clear hcf
   cases P with
   | none => exact absurd (HnP.out rfl) (by omega)
   | some aP =>
    have hTn2 : Tns w2 (some (aP.add (fr * 2))) ((ps.drop fr).take (tl - fr)) := hTn
    clear hTn
    have HTn2 := Lib.hid hTn2
    clear hTn2
    go_wp2_with fail
    all_goals (go_meet; exact ⟨rfl, rfl, rfl, _, _, rfl, HTn2.out⟩)
 case rest =>
  obtain ⟨rfl, rfl, rfl, Q, cq, rfl, hT4⟩ := hcut
  clear u0 u1 u2
  generalize (ps.drop fr).take (tl - fr) = qs at *
  rw [← hql]
  have hql' : tl - fr = qs.length := hql.symm
  have hqm : qs.length ≤ 1048576 := by omega
  clear hql
  have HT4 := Lib.hid hT4
  have Hql' := Lib.hid hql'
  clear hT4 hql'
  go_upto_region 6 with fail
  go_loopw [9, 31] (fun v i wx => ∃ (k : Nat) (vs : List Value), k ≤ qs.length ∧ i = .int .i64 (k : Int) ∧ wx.ownsRow w2.heap.size 30 2 v k vs ∧ Later w2 wx) (fun _ i _ => qs.length - (intOf i).toNat)
  case atStart => exact ⟨0, [], Nat.zero_le _, rfl, by have := Hown0.out; rw [Hql'.out] at this; exact this, H23.out⟩
  case round =>
   obtain ⟨k, vs, hk, rfl, hown, hlw⟩ := hrel
   obtain ⟨Ao, co, rfl⟩ := own_form hown
   by_cases hlt : k < qs.length
   ·obtain ⟨bx, ox, S, sc, C, cd, hQ, hbx, y0, y1, ht⟩ := (HT4.out.later hlw).at_ hlt
    subst hQ
    obtain ⟨s1, s2⟩ := Hqs.out (Ly.got qs k) (by rw [got_at hlt]; exact List.getElem_mem _)
    generalize Ly.got qs k = t at *
    have hbt := Blk.new wr 30 #[.slice S t.s.length sc, .slice C t.c.length cd]
    have hlb := (Later.refl wr).alloc (.cells #[.slice S t.s.length sc, .slice C t.c.length cd] 30)
    have hw3 : w2.heap.size ≤ wr.heap.size := hlw.size
    have hr3 := ht.later hlb
    have kk : (k : Int) < (qs.length : Int) := by omega
    clear ht
    have Hown := Lib.hid hown
    have Hlw := Lib.hid hlw
    have Hbt := Lib.hid hbt
    have Hlb := Lib.hid hlb
    have Hr3 := Lib.hid hr3
    clear hown hlw hbt hlb hr3
    go_upto_region 8 with fail
    generalize wr.alloc (.cells #[.slice S t.s.length sc, .slice C t.c.length cd] 30) = wb at *
    have z0 := Hbt.out.cell 0
    have z1 := Hbt.out.cell 1
    simp at z0 z1
    clear y0 y1
    go_wp2_with fail
    refine (tensor_copy S C sc cd t wb (by omega) (by omega) Hr3.out.r).mono ?_
    rintro e wc ⟨v, rfl, ⟨g1, h1, rfl, -, -, -, -⟩, hbc⟩
    have hbc' : Later wb wc := hbc
    have hrc := (Hlb.out.trans hbc').alloc (.cells #[.slice (some ⟨g1, 0, none⟩) t.s.length t.s.length, .slice (some ⟨h1, 0, none⟩) t.c.length t.c.length] 30)
    have hownA := ownsRow_later Hown.out hrc
    have hnb := Blk.new wc 30 #[.slice (some ⟨g1, 0, none⟩) t.s.length t.s.length, .slice (some ⟨h1, 0, none⟩) t.c.length t.c.length]
    have k0 := hnb.cell 0
    have k1 := hnb.cell 1
    simp at k0 k1
    have hwc : wr.heap.size ≤ wc.heap.size := (Hlb.out.trans hbc').size
    have hlo := fun b (hb : (Value.slice Ao k co).ownBlock = some b) => (Hown.out.lt b hb).1
    clear hbc hbc' z0 z1
    have Hrc := Lib.hid hrc
    have HownA := Lib.hid hownA
    have Hnb := Lib.hid hnb
    have Hlo := Lib.hid hlo
    clear hrc hownA hnb hlo
    go_wp2_with (at_builtin; refine wpList_append_own_at _ rfl _ _ 27 rfl w2.heap.size 30 i0 (.agg #[.slice none 0 0, .slice none 0 0]) 2 48 Tryz.underlying27 hi hy0 hy1 hy2 rfl (by decide) _ _ _ rfl HownA.out ⟨wc.heap.size, 0, none⟩ 1 1 [.slice (some ⟨g1, 0, none⟩) t.s.length t.s.length, .slice (some ⟨h1, 0, none⟩) t.c.length t.c.length] rfl rfl ?c1 (by intro u hu; simp at hu; rcases hu with rfl | rfl <;> rfl) (by unfold maxLen; omega) (by first | omega | (simp; omega)) ?c2 ?_)
    case c1 => intro j u hj; rw [addr_add, Nat.zero_add, Hnb.out.cell]; simpa using hj
    case c2 => simp; omega
    intro v' w6 hown' hgrow _ hat
    have hl6 : Later w2 w6 := (Hlw.out.trans Hrc.out).grown hgrow (by simp; omega) (fun b hb => Hlo.out b hb)
    clear hgrow hat k0 k1
    have Hown' := Lib.hid hown'
    have Hl6 := Lib.hid hl6
    clear hown' hl6
    go_wp2_with fail
    go_roundw
    case rel => exact ⟨k + 1, _, by omega, by go_num, Hown'.out, Hl6.out⟩
    case measure => simp [intOf]; omega
   ·obtain rfl : k = qs.length := by omega
    have h0w := H02.out.trans hlw
    have Hown := Lib.hid hown
    have Hlw := Lib.hid hlw
    have H0w := Lib.hid h0w
    clear hown hlw h0w
    go_wp2_with fail
    refine bodyPost_ret (v := .slice Ao qs.length co) (by simp [results, Tryz.results10, go_sem]) rfl ?_
    exact ⟨Ao, co, by simp [Hql'.out], H0w.out⟩
end Go.Proofs.YtbnnpkcfifejmabGreat
namespace Go.Proofs.YtbnnpkcfifejmabGreat
open Go.ChangeShapes Go.WideShapes Go.Deep Go.RowKit
theorem fix_one : Tryz.prog.cellsOf 43 = 1 := by kernel_rfl
theorem ten_cells : Tryz.prog.cellsOf 30 = 2 := by kernel_rfl
theorem ten_under : Tryz.prog.underlying 30 = some (.struct (Tryz.prog.fieldsOf 30)) := by kernel_rfl
theorem ten_two : (Tryz.prog.fieldsOf 30).size = 2 := by kernel_rfl
theorem ten_f0 : ((Tryz.prog.fieldsOf 30)[0]?).map (fun f => (f.type, f.offset, Tryz.prog.cellsOf f.type)) = some (23, 0, 1) := by kernel_rfl
theorem ten_f1 : ((Tryz.prog.fieldsOf 30)[1]?).map (fun f => (f.type, f.offset, Tryz.prog.cellsOf f.type)) = some (28, 1, 1) := by kernel_rfl
theorem fixs_open {H : Type} {enc : TypeId × Value → H} {W : World} {base : Nat} {spare : Nat → Bool} {held : Bool} {fuel : Nat} {v : Value} {x : DataW H × List MemPlace}
  (h : DataW.trod enc Tryz.prog W base spare held fuel 28 [v] = some x) (hz : Rows.uptoBulk x.1 ≤ 1048576) :
  ∃ A c zs, v = .slice A zs.length c ∧ Ints .i64 W A zs ∧ zs.length ≤ c ∧ c ≤ 9223372036854775807 ∧ zs.length ≤ 1048576 ∧ ∀ z ∈ zs, Fx.In z := by
 obtain ⟨A, c, zs, rfl, hl, hc, hI, hw⟩ := ints_open Tryz.underlying28 Tryz.underlying43 fix_one h
 refine ⟨A, c, zs, rfl, hI, hc, ?_, ?_, fun z hz => wf_bd (hw z hz)⟩
 ·rcases slice_bulk Tryz.underlying28 h hz with e | ⟨a, len, cap, e, _, hm, _⟩
  ·injection e with _ _ e; omega
  ·injection e with _ _ e; unfold maxLen at hm; omega
 ·rcases slice_bulk Tryz.underlying28 h hz with e | ⟨a, len, cap, e, _, _, hb, _⟩
  ·injection e with _ e _; rw [e]; exact Nat.zero_le _
  ·have e2 : zs.length = len := by simp at e; exact e.2.1
   rw [e2]
   exact hb
set_option maxRecDepth 100000 in
theorem ten_open {H : Type} {enc : TypeId × Value → H} {W : World} {base : Nat} {spare : Nat → Bool} {held : Bool} {fuel : Nat} {v0 v1 : Value} {x : DataW H × List MemPlace}
  (hf : DataW.trod enc Tryz.prog W base spare held fuel 30 [v0, v1] = some x) (hz : Rows.uptoBulk x.1 ≤ 1048576) :
  ∃ (S C : Option Addr) (c d : Nat) (t : Ten), v0 = .slice S t.s.length c ∧ v1 = .slice C t.c.length d ∧ TenIn W S C c d t := by
 obtain ⟨ys, n, _, hx, _, hlen, hg⟩ := DataW.trod_struct ten_under hf
 rw [ten_two] at hlen
 obtain ⟨y0, y1, rfl⟩ := list2 hlen
 rw [hx] at hz
 obtain ⟨f0, e0, t0⟩ := Option.map_eq_some_iff.1 ten_f0
 simp only [Prod.mk.injEq] at t0
 have h0 := hg 0 f0 e0
 rw [t0.2.2, t0.2.1, t0.1] at h0
 simp at h0
 obtain ⟨f1, e1, t1⟩ := Option.map_eq_some_iff.1 ten_f1
 simp only [Prod.mk.injEq] at t1
 have h1 := hg 1 f1 e1
 rw [t1.2.2, t1.2.1, t1.1] at h1
 simp at h1
 have hz0 : Rows.uptoBulk y0.1 ≤ 1048576 := by simp [Rows.uptoBulk, Rows.uptoBulkAll] at hz; omega
 have hz1 : Rows.uptoBulk y1.1 ≤ 1048576 := by simp [Rows.uptoBulk, Rows.uptoBulkAll] at hz; omega
 obtain ⟨S, c, zs, rfl, a1, a2, a3, a4, a5⟩ := nums_open Tryz.underlying23 h0 hz0
 obtain ⟨C, d, cs, rfl, b1, b2, b3, b4, b5⟩ := fixs_open h1 hz1
 exact ⟨S, C, c, d, ⟨zs, cs⟩, rfl, rfl, ⟨⟨a1, b1⟩, a2, a3, b2, b3, a4, b4, b5⟩⟩
structure TenQ where
 t : Ten
 S : Option Addr
 c : Nat
 C : Option Addr
 d : Nat
instance : Inhabited TenQ := ⟨⟨Ly.none_, none, 0, none, 0⟩⟩
theorem tens_open {H : Type} {enc : TypeId × Value → H} {W : World} {base : Nat} {spare : Nat → Bool} {held : Bool} {fuel : Nat} {v : Value} {x : DataW H × List MemPlace}
  (h : DataW.trod enc Tryz.prog W base spare held fuel 27 [v] = some x) (hz : Rows.uptoBulk x.1 ≤ 1048576) :
  ∃ A c ts, v = .slice A ts.length c ∧ Tns W A ts ∧ ts.length ≤ c ∧ c ≤ 9223372036854775807 ∧ ts.length ≤ 1048576 := by
 rcases slice_bulk Tryz.underlying27 h hz with rfl | ⟨a, len, cap, rfl, hl, hm, hb, hi⟩
 ·exact ⟨none, 0, [], rfl, Tns.nil _ _, by simp, by omega, by simp⟩
 ·rw [ten_cells] at hi
  have key : ∀ i, i < len → ∃ q : TenQ, W.cell? ((a.add (i * 2)).add 0) = some (.slice q.S q.t.s.length q.c) ∧ W.cell? ((a.add (i * 2)).add 1) = some (.slice q.C q.t.c.length q.d) ∧ TenIn W q.S q.C q.c q.d q.t := fun i hil => by
   obtain ⟨cs', m, y, hc, ht, hw⟩ := hi i hil
   obtain ⟨_, hlen, hat⟩ := World.cells?_some hc
   obtain ⟨v0, v1, rfl⟩ := list2 hlen
   obtain ⟨S, C, c, d, t, rfl, rfl, hT⟩ := ten_open ht hw
   exact ⟨⟨t, S, c, C, d⟩, hat 0 (by omega), hat 1 (by omega), hT⟩
  obtain ⟨L, hL, hq⟩ := choose_list key
  refine ⟨some a, cap, L.map (·.t), by simp [hL], fun j hj => ?_, by simpa [hL] using hl, by unfold maxLen at hm; omega, by simp [hL]; exact hb⟩
  rw [List.length_map] at hj
  obtain ⟨h1, h2, h3⟩ := hq j hj
  obtain ⟨h0, _, _⟩ := hq 0 (by omega)
  obtain ⟨b, off, rfl⟩ := addr_lit (v := .slice L[0].S L[0].t.s.length L[0].c) (show W.cell? a = _ by simpa [Addr.add] using h0)
  simp only [addr_add, Nat.add_zero] at h1 h2
  rw [List.getElem_map]
  exact ⟨b, off, _, _, _, _, rfl, World.block_lt_of_cell? _ _ h1, h1, h2, h3⟩
end Go.Proofs.YtbnnpkcfifejmabGreat
namespace Go.Proofs.YtbnnpkcfifejmabGreat
open Go.ChangeShapes Go.WideShapes Go.Deep Go.RowKit
theorem pcase_cells : Tryz.prog.cellsOf 32 = 5 := by kernel_rfl
theorem pcase_under : Tryz.prog.underlying 32 = some (.struct (Tryz.prog.fieldsOf 32)) := by kernel_rfl
theorem pcase_three : (Tryz.prog.fieldsOf 32).size = 3 := by kernel_rfl
theorem pcase_f0 : ((Tryz.prog.fieldsOf 32)[0]?).map (fun f => (f.type, f.offset, Tryz.prog.cellsOf f.type)) = some (26, 0, 2) := by kernel_rfl
theorem pcase_f1 : ((Tryz.prog.fieldsOf 32)[1]?).map (fun f => (f.type, f.offset, Tryz.prog.cellsOf f.type)) = some (27, 2, 1) := by kernel_rfl
theorem pcase_f2 : ((Tryz.prog.fieldsOf 32)[2]?).map (fun f => (f.type, f.offset, Tryz.prog.cellsOf f.type)) = some (30, 3, 2) := by kernel_rfl
theorem list5 {α : Type} {l : List α} (h : l.length = 5) : ∃ a b c d e, l = [a, b, c, d, e] := by
 match l, h with
 | [a, b, c, d, e], _ => exact ⟨a, b, c, d, e, rfl⟩
theorem net_open2 {H : Type} {enc : TypeId × Value → H} {W : World} {base : Nat} {spare : Nat → Bool} {held : Bool} {fuel : Nat} {v0 v1 : Value} {x : DataW H × List MemPlace}
  (hf : DataW.trod enc Tryz.prog W base spare held fuel 26 [v0, v1] = some x) (hz : Rows.uptoBulk x.1 ≤ 1048576) :
  ∃ A N c1 c2 n, v0 = .slice A (List.length (NetD.inn n)) c1 ∧ v1 = .slice N n.nodes.length c2 ∧ n.inn.length ≤ c1 ∧ c1 ≤ 9223372036854775807 ∧ n.nodes.length ≤ c2 ∧ c2 ≤ 9223372036854775807 ∧ NetR W A N n ∧ n.fits := by
 obtain ⟨ys, n, _, hx, _, hlen, hg⟩ := DataW.trod_struct net_under hf
 rw [net_two] at hlen
 obtain ⟨y0, y1, rfl⟩ := list2 hlen
 rw [hx] at hz
 obtain ⟨f0, e0, t0⟩ := Option.map_eq_some_iff.1 net_f0
 simp only [Prod.mk.injEq] at t0
 have h0 := hg 0 f0 e0
 rw [t0.2.2, t0.2.1, t0.1] at h0
 simp at h0
 obtain ⟨f1, e1, t1⟩ := Option.map_eq_some_iff.1 net_f1
 simp only [Prod.mk.injEq] at t1
 have h1 := hg 1 f1 e1
 rw [t1.2.2, t1.2.1, t1.1] at h1
 simp at h1
 have hz0 : Rows.uptoBulk y0.1 ≤ 1048576 := by simp [Rows.uptoBulk, Rows.uptoBulkAll] at hz; omega
 have hz1 : Rows.uptoBulk y1.1 ≤ 1048576 := by simp [Rows.uptoBulk, Rows.uptoBulkAll] at hz; omega
 obtain ⟨A, c1, zs, rfl, a1, a2, a3, a4, a5⟩ := nums_open Tryz.underlying23 h0 hz0
 obtain ⟨N, c2, ns, rfl, b1, b2, b3, b4, b5⟩ := nodes_open h1 hz1
 exact ⟨A, N, c1, c2, ⟨zs, ns⟩, rfl, rfl, a2, a3, b2, b3, ⟨a1, b1⟩, a4, b4, a5, b5⟩
set_option maxRecDepth 100000 in
theorem pcase_open {H : Type} {enc : TypeId × Value → H} {W : World} {r : Reach} {b0 base : Nat} {spare : Nat → Bool} {held : Bool} {v : Value} {d : DataW H} {p : List MemPlace}
  (hv : Value.okWide Tryz.prog W r b0 32 v) (h : DataW.Trod enc Tryz.prog W base spare held 32 v d p) (hz : Rows.uptoBulk d ≤ 1048576) :
  ∃ A N P XS XC c d cp xc xd n ps x, v = .agg #[.slice A (List.length (NetD.inn n)) c, .slice N n.nodes.length d, .slice P (List.length ps) cp, .slice XS (List.length (Ten.s x)) xc, .slice XC x.c.length xd] ∧
   n.ok ∧ NetR W A N n ∧ n.nodes.length ≤ d ∧ n.inn.length ≤ c ∧ c ≤ 9223372036854775807 ∧ Tns W P ps ∧ ps.length ≤ 1048576 ∧ ps.length ≤ cp ∧ cp ≤ 9223372036854775807 ∧ (P = none → cp = 0) ∧ TenIn W XS XC xc xd x := by
 obtain ⟨cs, rfl, hsz⟩ := okWide_struct pcase_under hv
 obtain ⟨l⟩ := cs
 obtain ⟨v0, v1, v2, v3, v4, rfl⟩ := list5 (hsz.trans pcase_cells)
 obtain ⟨fuel, hf⟩ := h
 obtain ⟨ys, n, _, hx, _, hlen, hg⟩ := DataW.trod_struct pcase_under hf
 rw [pcase_three] at hlen
 obtain ⟨y0, y1, y2, rfl⟩ := list3 hlen
 simp only [Prod.mk.injEq, List.map_cons, List.map_nil] at hx
 obtain ⟨rfl, _⟩ := hx
 obtain ⟨f0, e0, t0⟩ := Option.map_eq_some_iff.1 pcase_f0
 simp only [Prod.mk.injEq] at t0
 have h0 := hg 0 f0 e0
 rw [t0.2.2, t0.2.1, t0.1] at h0
 simp [Value.cells] at h0
 have hz0 : Rows.uptoBulk y0.1 ≤ 1048576 := by simp [Rows.uptoBulk, Rows.uptoBulkAll] at hz; omega
 obtain ⟨f1, e1, t1⟩ := Option.map_eq_some_iff.1 pcase_f1
 simp only [Prod.mk.injEq] at t1
 have h1 := hg 1 f1 e1
 rw [t1.2.2, t1.2.1, t1.1] at h1
 simp [Value.cells] at h1
 have hz1 : Rows.uptoBulk y1.1 ≤ 1048576 := by simp [Rows.uptoBulk, Rows.uptoBulkAll] at hz; omega
 obtain ⟨f2, e2, t2⟩ := Option.map_eq_some_iff.1 pcase_f2
 simp only [Prod.mk.injEq] at t2
 have h2 := hg 2 f2 e2
 rw [t2.2.2, t2.2.1, t2.1] at h2
 simp [Value.cells] at h2
 have hz2 : Rows.uptoBulk y2.1 ≤ 1048576 := by simp [Rows.uptoBulk, Rows.uptoBulkAll] at hz; omega
 obtain ⟨A, N, c1, c2, n, rfl, rfl, a2, a3, a4, a5, a6, a7⟩ := net_open2 h0 hz0
 obtain ⟨P, cp, ps, rfl, p1, p2, p3, p4⟩ := tens_open h1 hz1
 have pn : P = none → cp = 0 := by
  rcases slice_bulk Tryz.underlying27 h1 hz1 with e | ⟨a, len, cap, e, _⟩
  ·injection e with e1 e2 e3
   intro; exact e3
  ·injection e with e1 e2 e3
   intro e; rw [e1] at e; cases e
 obtain ⟨XS, XC, xc, xd, x, rfl, rfl, hT⟩ := ten_open h2 hz2
 exact ⟨A, N, P, XS, XC, c1, c2, cp, xc, xd, n, ps, x, rfl, a7.ok, a6, a4, a2, a3, p1, p4, p2, p3, pn, hT⟩
end Go.Proofs.YtbnnpkcfifejmabGreat
