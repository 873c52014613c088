/- Lemmas for the statements of this seat: contracts of functions and the plain laws. -/
import Derived.Deep.RegionHeld3
import Derived.Test.YtnffjfjhbjeaiaaGreatDoorRows
import Derived.Test.YtnffjfjhbjeaiaaGreatDoorZ10
set_option linter.unusedVariables false
/- The reference of layer 11: Check: contract. -/
namespace Go.Proofs.YtnffjfjhbjeaiaaGreatDoor
open Go.RowKit
def RefCheckP (n : NetD) (w : World) (e : Ending) (w' : World) : Prop :=
  Below w.heap.size w w' ∧ ((Nt.check n = 0 ∧ ∃ g, e = .returned (.tuple #[.slice (some ⟨g, 0, none⟩) (n.nodes.length + 1) (n.nodes.length + 1), .int .i64 (Nt.loss n.nodes), .int .i64 0]) ∧ w.heap.size ≤ g ∧ ShpRow w' g 22 (Nt.shapes n)) ∨
    (Nt.check n ≠ 0 ∧ e = .returned (.tuple #[.slice none 0 0, .int .i64 0, .int .i64 (Nt.check n)])))
theorem RefCheckP.err {n : NetD} {w w' : World} {k : Int} (h : Nt.check n = k) (hk : k ≠ 0) (hb : Below w.heap.size w w') : RefCheckP n w (.returned (.tuple #[.slice none 0 0, .int .i64 0, .int .i64 k])) w' :=
  ⟨hb, .inr (by rw [h]; exact ⟨hk, rfl⟩)⟩
theorem ShpRow.apart {w : World} {g : Nat} {t : TypeId} {sh : List (List Int)} {S : Option Addr} {s : List Int} (h : ShpRow w g t sh) (hI : Ints .i64 w S s) (hs : 0 < s.length) : ∀ a, S = some a → a.block ≠ g := by
  intro a ha hg
  obtain ⟨b, off, e, hl, hc⟩ := hI 0 hs
  rw [ha] at e
  injection e with e
  subst e
  simp at hg
  subst hg
  obtain ⟨vs, hl2, hk, hv⟩ := h
  rw [Nat.add_zero, hk.cell off] at hc
  by_cases ho : off < sh.length
  · obtain ⟨S', c', e1, _⟩ := hv off ho
    simp at hc
    rw [e1] at hc
    simp at hc
  · rw [Array.getElem?_eq_none (by simp; omega)] at hc
    cases hc
theorem Nt.count_used (ns : List NodeD) (id : Int) : (Nt.count ns id = 0) ↔ Nt.isUsed ns id = false := by
  unfold Nt.count Nt.isUsed
  rw [List.length_eq_zero_iff, List.filter_eq_nil_iff, List.any_eq_false]
set_option maxRecDepth 20000 in
set_option maxHeartbeats 16000000 in
theorem ref11_check (A N : Option Addr) (c d : Nat) (n : NetD) (w : World) (hok : n.ok) (hR : NetR w A N n) (hd : n.nodes.length ≤ d) (hc : n.inn.length ≤ c) (hcm : c ≤ 9223372036854775807) :
    Calls Tryz.prog 9 #[.agg #[.slice A n.inn.length c, .slice N n.nodes.length d]] w (RefCheckP n w) := by
  obtain ⟨i1, hj, hy0, hy1, hy2⟩ := info_parts shpsT_info
  have hnl := hok.2.1
  have hil := hok.1
  have hb0 : Below w.heap.size w (w.alloc (.cells #[.slice A n.inn.length c, .slice N n.nodes.length d] 39)) := (Below.refl _ _).alloc (Nat.le_refl _) _
  have hk0 := Blk.new w 39 #[.slice A n.inn.length c, .slice N n.nodes.length d]
  have hR0 := hR.below hb0 (Nat.le_refl _)
  by_cases hmany : n.nodes.length < 1 ∨ 512 < n.nodes.length
  · have HC := Lib.hid (Nt.check_many hmany)
    have HR := Lib.hid hR
    have Hok := Lib.hid hok
    have HR0 := Lib.hid hR0
    have Hk0 := Lib.hid hk0
    clear hR hok hR0 hk0
    rcases hmany with h | h
    · have d1 : decide ((n.nodes.length : Int) < 1) = true := by simp; omega
      go_enter Tryz.func9, Tryz.ntmps9
      go_wp2_with fail
      go_ret3
      exact RefCheckP.err HC.out (by omega) hb0
    · have d1 : decide ((n.nodes.length : Int) < 1) = false := by simp; omega
      have d2 : decide ((512 : Int) < (n.nodes.length : Int)) = true := by simp; omega
      go_enter Tryz.func9, Tryz.ntmps9
      go_wp2_with fail
      go_ret3
      exact RefCheckP.err HC.out (by omega) hb0
  · have d1 : decide ((n.nodes.length : Int) < 1) = false := by simp; omega
    have d2 : decide ((512 : Int) < (n.nodes.length : Int)) = false := by simp; omega
    have h512 : n.nodes.length ≤ 512 := by omega
    have hone : 1 ≤ n.nodes.length := by omega
    have HR := Lib.hid hR
    have Hok := Lib.hid hok
    have HR0 := Lib.hid hR0
    have Hk0 := Lib.hid hk0
    have Hmany := Lib.hid hmany
    clear hR hok hR0 hk0 hmany
    go_enter Tryz.func9, Tryz.ntmps9
    go_wp2_with fail
    have hx := Hk0.out
    generalize w.alloc (.cells #[.slice A n.inn.length c, .slice N n.nodes.length d] 39) = w1 at *
    have hbox := Hk0.out
    refine (ref03_right A c n.inn _ (by omega) HR0.out.1).mono ?_
    rintro e w2 ⟨rfl, rfl⟩
    have x1 : w1.cell? ⟨w.heap.size, 1, none⟩ = some (.slice N n.nodes.length d) := by rw [hbox.cell]; rfl
    clear d1 d2 hx
    by_cases hin : Sh.right n.inn = true
    rotate_left
    · have hin' : Sh.right n.inn = false := by simpa using hin
      have HC := Lib.hid (Nt.check_in Hmany.out hin')
      rw [hin']
      have Hbox := Lib.hid hbox
      clear hbox
      clear hin hin'
      go_wp2_with fail
      go_ret3
      exact RefCheckP.err HC.out (by omega) hb0
    · have Hin := Lib.hid hin
      rw [hin]
      have Hbox := Lib.hid hbox
      clear hbox
      clear hin
      go_wp2_with fail
      clear x1 HR0 Hk0
      go_loopw [5] (fun i wr => ∃ k : Nat, k ≤ n.nodes.length ∧ i = .int .i64 k ∧ Blk wr w.heap.size 39 #[.slice A n.inn.length c, .slice N n.nodes.length d] ∧ Below w.heap.size w wr ∧ lookBad n k) (fun i _ => n.nodes.length - (intOf i).toNat)
      case atStart => exact ⟨0, Nat.zero_le _, rfl, Hbox.out, hb0, fun j hj h => by omega⟩
      case round =>
        clear Hbox hb0
        obtain ⟨k, hk, rfl, hbox, hbw, hbad⟩ := hrel
        have hsl := hbox.lt
        have x1 : wr.cell? ⟨w.heap.size, 1, none⟩ = some (.slice N n.nodes.length d) := by rw [hbox.cell]; rfl
        by_cases hlt : k < n.nodes.length
        · obtain ⟨b, off, S, sc, J, ic, Q, qc, rfl, hNA, -, hI, -⟩ := HR.out.2.at_ hlt
          have hnok := Hok.out.2.2 _ (List.getElem_mem hlt)
          have hb21 := fun h => Nt.bads_op (n := n.nodes.length) hlt hbad h
          have hb11 := fun h m (hm : m < n.nodes[k].ins.length) h2 => Nt.bads_in (n := n.nodes.length) hlt hbad h (m := m) hm h2
          have hnext : Od.right n.nodes[k].op = true → n.nodes[k].ins.all (fun i => decide (0 ≤ i ∧ i ≤ n.nodes.length)) = true → lookBad n (k + 1) := fun h1 h2 j hj hjk => by
            by_cases e : j = k
            · subst e; exact ⟨h1, h2⟩
            · exact hbad j hj (by omega)
          have hil := hnok.2.2.1
          have hsl2 := hnok.2.1
          generalize n.nodes[k] = v at *
          have hNw := hNA.below hbw
          obtain ⟨⟨y0, y1, y2, y3, y4, y5, y6, y7, y8, y9⟩, -⟩ := hNA.below hbw
          have hcall := ref10_right v.op S sc wr (by omega)
          rw [Od.ref_right] at hcall
          have Hbox := Lib.hid hbox
          have HNA := Lib.hid hNA
          have Hnok := Lib.hid hnok
          have Hb21 := Lib.hid hb21
          have Hb11 := Lib.hid hb11
          have Hnext := Lib.hid hnext
          have HNw := Lib.hid hNw
          have Hbad := Lib.hid hbad
          have Hcall := Lib.hid hcall
          clear hbox hNA hnok hb21 hb11 hnext hNw hbad hcall
          go_wp2_with fail
          refine (Hcall.out).mono ?_
          rintro e w2 ⟨rfl, hb2⟩
          have hbx2 := hbw.trans (hb2.mono hbw.size)
          have hbox2 := Hbox.out.below hb2 hsl
          clear x1
          have x1 : w2.cell? ⟨w.heap.size, 1, none⟩ = some (.slice (some ⟨b, off, none⟩) n.nodes.length d) := by rw [hbox2.cell]; rfl
          have hN2 := HNw.out.below hb2
          obtain ⟨⟨-, -, -, -, -, -, -, -, z8, -⟩, -, hIJ, -⟩ := hN2
          clear y0 y1 y2 y3 y4 y5 y6 y7 y8 y9 Hbox Hcall
          by_cases hor : Od.right v.op = true
          rotate_left
          · have hor' : Od.right v.op = false := by simpa using hor
            have hc := Hb21.out hor'
            have HC := Lib.hid ((Nt.check_bads Hmany.out Hin.out (by rw [hc]; omega)).trans hc)
            rw [hor']
            have Hbox2 := Lib.hid hbox2
            have HIJ := Lib.hid hIJ
            clear hbox2 hIJ
            clear hor hc hor'
            go_wp2_with fail
            go_ret3
            exact RefCheckP.err HC.out (by omega) hbx2
          · have Hor := Lib.hid hor
            rw [hor]
            have Hbox2 := Lib.hid hbox2
            have HIJ := Lib.hid hIJ
            clear hbox2 hIJ
            clear hor
            go_wp2_with fail
            go_loopw [6] (fun i wx => ∃ m q : Nat, m ≤ v.ins.length ∧ i = .int .i64 m ∧ (∀ j (hj : j < v.ins.length), j < m → 0 ≤ v.ins[j] ∧ v.ins[j] ≤ n.nodes.length) ∧ wx = w2.drewN q) (fun i _ => v.ins.length - (intOf i).toNat)
            case atStart => exact ⟨0, 0, Nat.zero_le _, rfl, (fun j hj h => by omega), rfl⟩
            case round =>
              obtain ⟨m, q, hm, rfl, hall, rfl⟩ := hrel
              by_cases hlm : m < v.ins.length
              · obtain ⟨b1, off1, rfl, -, hc⟩ := HIJ.out m hlm
                rw [getD_at hlm] at hc
                have hbd := Hb11.out Hor.out m hlm
                have hnx : (0 ≤ v.ins[m] ∧ v.ins[m] ≤ n.nodes.length) → ∀ j (hj : j < v.ins.length), j < m + 1 → 0 ≤ v.ins[j] ∧ v.ins[j] ≤ n.nodes.length := fun h j hj hjm => by
                  by_cases e : j = m
                  · subst e; exact h
                  · exact hall j hj (by omega)
                generalize v.ins[m] = u at *
                have m0 : (0 : Int) ≤ (m : Int) := by omega
                have m1 : (m : Int) < (v.ins.length : Int) := by omega
                have k0 : (0 : Int) ≤ (k : Int) := by omega
                have k1 : (k : Int) < (n.nodes.length : Int) := by omega
                by_cases hu : 0 ≤ u ∧ u ≤ n.nodes.length
                · have HN := Lib.hid (hnx hu)
                  have e1 : decide (u < 0) = false := by simp; omega
                  have e2 : decide ((n.nodes.length : Int) < u) = false := by simp; omega
                  clear hu hbd
                  have Hnx := Lib.hid hnx
                  have Hall := Lib.hid hall
                  clear hnx hall
                  go_wp2_with fail
                  go_quiet (fail)
                  go_wp2_with fail
                  go_roundw
                  case rel => exact ⟨m + 1, _, by omega, by go_num, HN.out, by first | rfl | exact World.drewN_drewN _ _ _⟩
                  case measure => simp [intOf]; omega
                · have hc2 := hbd hu
                  have HC := Lib.hid ((Nt.check_bads Hmany.out Hin.out (by rw [hc2]; omega)).trans hc2)
                  clear hc2 hbd
                  have Hnx := Lib.hid hnx
                  have Hall := Lib.hid hall
                  clear hnx hall
                  by_cases hneg : u < 0
                  · have e1 : decide (u < 0) = true := by simpa using hneg
                    clear hu
                    go_wp2_with fail
                    go_quiet (fail)
                    go_wp2_with fail
                    go_ret3
                    exact RefCheckP.err HC.out (by omega) (by first | exact Bdrawn2 hbx2 _ _ | exact Bdrawn hbx2 _)
                  · have e1 : decide (u < 0) = false := by simpa using hneg
                    have e2 : decide ((n.nodes.length : Int) < u) = true := by simp; omega
                    clear hu
                    go_wp2_with fail
                    go_quiet (fail)
                    go_wp2_with fail
                    go_ret3
                    exact RefCheckP.err HC.out (by omega) (by first | exact Bdrawn2 hbx2 _ _ | exact Bdrawn hbx2 _)
              · obtain rfl : m = v.ins.length := by omega
                have HN := Lib.hid (Hnext.out Hor.out (List.all_eq_true.2 fun i hi => by obtain ⟨j, hj, rfl⟩ := List.getElem_of_mem hi; simpa using hall j hj hj))
                have Hall := Lib.hid hall
                clear hall
                go_wp2_with fail
                go_roundw
                case rel => exact ⟨k + 1, by omega, by go_num, Hbox2.out.drewN q, Bdrawn hbx2 q, HN.out⟩
                case measure => simp [intOf]; omega
        · obtain rfl : k = n.nodes.length := by omega
          have hb0 : Nt.bads n.nodes.length n.nodes = 0 := Nt.bads_none hbad
          have hins : ∀ v ∈ n.nodes, ∀ i ∈ v.ins, 0 ≤ i ∧ i ≤ n.nodes.length := fun v hv => (Nt.bads_all hb0 v hv).2
          have hrop : ∀ v ∈ n.nodes, Od.right v.op = true := fun v hv => (Nt.bads_all hb0 v hv).1
          have x0 : wr.cell? ⟨w.heap.size, 0, none⟩ = some (.slice A n.inn.length c) := by rw [hbox.cell]; rfl
          have Hbad := Lib.hid hbad
          have Hbox := Lib.hid hbox
          have Hb0 := Lib.hid hb0
          have Hins := Lib.hid hins
          have Hrop := Lib.hid hrop
          clear hbad hbox hb0 hins hrop
          go_wp2_with fail
          refine (ref11_order A N c d n _ Hok.out (HR.out.below hbw (Nat.le_refl _))).mono ?_
          rintro e w2 ⟨O, oc, rfl, hO, hoc, hoc2, hb2⟩
          have hbw2 := hbw.trans (hb2.mono hbw.size)
          have hbox2 := Hbox.out.below hb2 Hbox.out.lt
          have hw2l : w.heap.size < w2.heap.size := hbox2.lt
          clear x0 x1
          have x0 : w2.cell? ⟨w.heap.size, 0, none⟩ = some (.slice A n.inn.length c) := by rw [hbox2.cell]; rfl
          have x1 : w2.cell? ⟨w.heap.size, 1, none⟩ = some (.slice N n.nodes.length d) := by rw [hbox2.cell]; rfl
          clear Hbox
          have hole : (Nt.sorted n.nodes).length ≤ n.nodes.length := Kn.order_len_le _ _
          by_cases hcy : (Nt.sorted n.nodes).length = n.nodes.length
          rotate_left
          · have HC := Lib.hid (Nt.check_cyc Hmany.out Hin.out Hb0.out hcy)
            have e1 : decide (((Nt.sorted n.nodes).length : Int) < (n.nodes.length : Int)) = true := by simp; omega
            have e2 : decide ((Nt.sorted n.nodes).length < n.nodes.length) = true := by simp; omega
            generalize Nt.sorted n.nodes = os at *
            have Hbox2 := Lib.hid hbox2
            have Hcy := Lib.hid hcy
            have HO := Lib.hid hO
            clear hbox2 hcy hO
            go_wp2_with fail
            go_ret3
            exact RefCheckP.err HC.out (by omega) hbw2
          · have hcheck := fun h5 => Nt.check_lay Hmany.out Hin.out Hb0.out hcy h5
            have hcheck6 := fun h5 h6 => Nt.check_loss Hmany.out Hin.out Hb0.out hcy h5 h6
            have hcheck7 := fun h5 h6 => Nt.check_last Hmany.out Hin.out Hb0.out hcy h5 h6
            have hgoodF := fun h5 : (Nt.lay n.nodes (Nt.start n) (Nt.sorted n.nodes)).2 = 0 => Nt.lay_good Hin.out (Nt.sorted n.nodes).length (Nat.le_refl _) (by rw [List.take_length]; exact h5)
            rw [List.take_length] at hgoodF
            have hfull : ∀ u, u ∈ Nt.sorted n.nodes ↔ 1 ≤ u ∧ u ≤ n.nodes.length := Kn.order_full (I := Nt.insF n.nodes) (n := n.nodes.length) hcy
            have hshp : (Nt.lay n.nodes (Nt.start n) (Nt.sorted n.nodes)).1 = Nt.shapes n := rfl
            have hrng : ∀ u ∈ Nt.sorted n.nodes, 1 ≤ u ∧ u ≤ n.nodes.length := Kn.order_rng _ _
            have hbeh : ∀ a b u, Nt.sorted n.nodes = a ++ u :: b → ∀ i ∈ Nt.insF n.nodes u, i = 0 ∨ i ∈ a := fun a b u h => Kn.order_behind _ _ h
            rw [hcy]
            obtain ⟨os, hos⟩ : ∃ os, Nt.sorted n.nodes = os := ⟨_, rfl⟩
            have hshort : ∀ k, k ≤ os.length → ∀ sh, Nt.lay n.nodes (Nt.start n) (os.take k) = (sh, 0) → Nt.Good (os.take k) sh ∧ sh.length = n.nodes.length + 1 := fun k hk sh h => by
              have := lay_short (n := n) Hin.out (k := k) (by rw [hos]; exact hk) (sh := sh) (by rw [hos]; exact h)
              rw [hos] at this
              exact this
            rw [hos] at hcheck hcheck6 hcheck7 hgoodF hfull hshp hO hcy hoc hole hrng hbeh
            rw [hcy] at hoc
            have hAb : ∀ a, A = some a → a.block < w.heap.size := fun a ha => by
              obtain ⟨b, off, e, hl, -⟩ := HR.out.1 0 (right_short Hin.out).1
              rw [ha] at e; injection e with e; subst e; exact hl
            have hInn := HR.out.1.below hbw2 (Nat.le_refl _)
            have e1 : IntKind.i64.wrap ((n.nodes.length : Int) + 1) = ((n.nodes.length + 1 : Nat) : Int) := by rw [IntWalk.i64_in _ (by omega)]; omega
            have Hcheck := Lib.hid hcheck
            have Hcheck6 := Lib.hid hcheck6
            have Hcheck7 := Lib.hid hcheck7
            have HgoodF := Lib.hid hgoodF
            have Hfull := Lib.hid hfull
            have Hshp := Lib.hid hshp
            have Hcy := Lib.hid hcy
            have Hos := Lib.hid hos
            have HO := Lib.hid hO
            have Hbox2 := Lib.hid hbox2
            have Hrng := Lib.hid hrng
            have Hbeh := Lib.hid hbeh
            have Hshort := Lib.hid hshort
            have HAb := Lib.hid hAb
            have HInn := Lib.hid hInn
            clear hcheck hcheck6 hcheck7 hgoodF hfull hshp hcy hos hO hbox2 hrng hbeh hshort hAb hInn
            go_wp2_with (at_make; refine wpList_make_full _ rfl _ _ 34 rfl w2.heap.size 22 i1 (.slice none 0 0) 1 Tryz.underlying34 hj hy0 hy1 _ _ _ _ (n.nodes.length + 1) rfl rfl (by first | rfl | simp | (go_simp; rfl)) (by first | rfl | simp | (go_simp; rfl)) ?b2 ?b3 ?b4 ?_)
            case b2 => rw [hy2]; omega
            case b3 => unfold maxLen; omega
            case b4 => exact Nat.le_refl _
            intro w3 hown hgrow
            have hblk := own_cur hown
            rw [made_one] at hblk
            obtain ⟨g, hg⟩ : ∃ g, w2.heap.size = g := ⟨_, rfl⟩
            have hrow : ShpRow w3 g 22 (List.replicate (n.nodes.length + 1) []) := by rw [← hg]; exact ShpRow.new (by simpa [Blk] using hblk)
            have hb3 : Below w2.heap.size w2 w3 := (Below.refl _ w2).grown hgrow (Nat.le_refl _) (by simp)
            have hbw3 := hbw2.trans (hb3.mono hbw2.size)
            have hbox3 := Hbox2.out.below hb3 hw2l
            have hrow0 := hrow.set_ (i := 0) (HInn.out.below hb3 (Nat.le_refl _)) hc hcm (fun a ha => by have := HAb.out a ha; omega)
            rw [show (List.replicate (n.nodes.length + 1) ([] : List Int)).set 0 n.inn = Nt.start n from rfl] at hrow0
            have hbox4 := hbox3.far (p := ⟨g, 0, none⟩) (by simp; omega) (.slice A n.inn.length c)
            have hbw4 := hbw3.setCell (p := ⟨g, 0, none⟩) (by simp; omega) (.slice A n.inn.length c)
            have hO4 := (HO.out.below hb3 (Nat.le_refl _))
            obtain ⟨S0, c0, z0, -⟩ := hrow.at_ (j := 0) (by simp)
            have f0 : w3.frozen? ⟨g, 0, none⟩ = false := by obtain ⟨vs, _, hk, _⟩ := hrow; exact hk.frozen 0
            have hOb : ∀ a, O = some a → a.block ≠ g := fun a ha => by
              obtain ⟨b, off, e, hl, -⟩ := HO.out 0 (by have := Hcy.out; omega)
              rw [ha] at e; injection e with e; subst e; simp; omega
            have hO5 := hO4.set_far (p := ⟨g, 0, none⟩) hOb (.slice A n.inn.length c)
            clear x0 x1
            have x0 : w3.cell? ⟨w.heap.size, 0, none⟩ = some (.slice A n.inn.length c) := by rw [hbox3.cell]; rfl
            have x1 : w3.cell? ⟨w.heap.size, 1, none⟩ = some (.slice N n.nodes.length d) := by rw [hbox3.cell]; rfl
            rw [hg]
            have hgw : w.heap.size < g := by omega
            have hgne : ¬ w.heap.size = g := by omega
            clear hblk hown hgrow hrow hO4 hbw2 hb2 hbw hg
            have Hrow0 := Lib.hid hrow0
            have Hbox3 := Lib.hid hbox3
            have Hbox4 := Lib.hid hbox4
            have HO5 := Lib.hid hO5
            have HOb := Lib.hid hOb
            clear hrow0 hbox3 hbox4 hO5 hOb
            clear HO HInn
            go_wp2_with fail
            clear z0 f0 x0 x1 hb3 hbw3
            go_loopw [9] (fun i wr => ∃ k : Nat, k ≤ os.length ∧ i = .int .i64 k ∧ Blk wr w.heap.size 39 #[.slice A n.inn.length c, .slice N n.nodes.length d] ∧ Below w.heap.size w wr ∧ Ints .i64 wr O os ∧ ∃ sh, Nt.lay n.nodes (Nt.start n) (os.take k) = (sh, 0) ∧ ShpRow wr g 22 sh) (fun i _ => os.length - (intOf i).toNat)
            case atStart => exact ⟨0, Nat.zero_le _, rfl, Hbox4.out, hbw4, HO5.out, Nt.start n, rfl, Hrow0.out⟩
            case round =>
              obtain ⟨k, hk, rfl, hbox, hbw, hO, sh, hlay, hrow⟩ := hrel
              clear Hrow0 Hbox3 Hbox4 HO5 hbw4
              obtain ⟨hgood, hshl⟩ := Hshort.out k hk sh hlay
              have x1 : wr.cell? ⟨w.heap.size, 1, none⟩ = some (.slice N n.nodes.length d) := by rw [hbox.cell]; rfl
              have hol := Hcy.out
              by_cases hlt : k < os.length
              · obtain ⟨b, off, rfl, -, hc⟩ := hO k hlt
                rw [getD_at hlt] at hc
                have hr := Hrng.out _ (List.getElem_mem hlt)
                have hsplit : os = os.take k ++ os[k] :: os.drop (k + 1) := by rw [← List.drop_eq_getElem_cons hlt, List.take_append_drop]
                have hbe := Hbeh.out _ _ _ hsplit
                obtain ⟨j, hj'⟩ : ∃ j : Nat, os[k] = (j : Int) + 1 := ⟨(os[k] - 1).toNat, by omega⟩
                have hjl : j < n.nodes.length := by omega
                have hlay' := fun h : (Nt.layStep n.nodes sh os[k]).2 = 0 => Nt.lay_snoc (id := os[k]) hlay h
                have hfail := fun h : (Nt.layStep n.nodes sh os[k]).2 ≠ 0 => Nt.lay_fail (b := os.drop (k + 1)) (id := os[k]) hlay h
                rw [← List.take_succ_eq_append_getElem hlt] at hlay'
                rw [← hsplit] at hfail
                have hst : Nt.layStep n.nodes sh os[k] = Od.shape n.nodes[j].op n.nodes[j].p (Nt.pick sh n.nodes[j].ins) := by unfold Nt.layStep; rw [hj', Nt.node_at hjl]
                have hiF : Nt.insF n.nodes os[k] = n.nodes[j].ins := by unfold Nt.insF; rw [hj', Nt.node_at hjl]
                rw [hst] at hlay' hfail
                rw [hiF] at hbe
                rw [hj'] at hc hlay'
                rw [show ((j : Int) + 1).toNat = j + 1 by omega] at hlay'
                have hnok := Hok.out.2.2 _ (List.getElem_mem hjl)
                have hrv := Hrop.out _ (List.getElem_mem hjl)
                have hinr := Hins.out _ (List.getElem_mem hjl)
                obtain ⟨b1, off1, S, sc, J, ic, Q, qc, rfl, hNA, hs1, hI1, hq1⟩ := HR.out.2.at_ hjl
                have hgr : ∀ i ∈ n.nodes[j].ins, 0 ≤ i ∧ i.toNat < sh.length ∧ Sh.right (sh.getD i.toNat []) = true := fun i hi => ⟨(hinr i hi).1, by have := hinr i hi; omega, hgood i (hbe i hi)⟩
                generalize n.nodes[j] = v at *
                have hNw := hNA.below hbw
                obtain ⟨⟨y0, y1, y2, y3, y4, y5, y6, y7, y8, y9⟩, -⟩ := hNA.below hbw
                have j1 : IntKind.i64.wrap ((j : Int) + 1 - 1) = (j : Int) := by rw [IntWalk.i64_in _ (by omega)]; omega
                have j2 : (j : Int) < n.nodes.length := by omega
                have j0 : (0 : Int) ≤ (j : Int) := by omega
                have k0 : (0 : Int) ≤ (k : Int) := by omega
                have k1 : (k : Int) < (n.nodes.length : Int) := by omega
                have j4 : (0 : Int) ≤ (j : Int) + 1 := by omega
                have j5 : IntKind.i64.wrap (j : Int) = (j : Int) := IntWalk.i64_in _ (by omega)
                have hcall : ∀ W : World, Ints .i64 W S v.op.s → Ints .i64 W J v.ins → Shps W Q v.p → Shps W (some ⟨g, 0, none⟩) sh → Calls Tryz.prog 34 #[.agg #[.int .i64 v.op.kind, .int .i64 v.op.k, .int .i64 v.op.width, .int .i64 v.op.step, .int .i64 v.op.side, .int .i64 v.op.frm, .int .i64 v.op.to, .slice S v.op.s.length sc, .slice J v.ins.length ic, .slice Q v.p.length qc], .slice (some ⟨g, 0, none⟩) (n.nodes.length + 1) (n.nodes.length + 1)] W (RefP (Od.shape v.op v.p (Nt.pick sh v.ins)) W) := fun W q1 q2 q3 q4 => by
                  rw [← hshl]
                  exact ref11_shape v S J Q sc ic qc g sh.length sh W hnok hrv hs1.1 hs1.2 q1 q2 q3 q4 hgr
                have hrgt := fun h : (Od.shape v.op v.p (Nt.pick sh v.ins)).2 = 0 => right_short (Od.shape_right h)
                generalize Od.shape v.op v.p (Nt.pick sh v.ins) = r at *
                have hcall2 := hcall
                have F1 := Lib.hid hNw.2.1
                have F2 := Lib.hid hNw.2.2.1
                have F3 := Lib.hid hNw.2.2.2
                have F4 := Lib.hid hrow.shps
                have HC1 := Lib.hid hcall
                have HT := Lib.hid hrgt
                have HL := Lib.hid hlay'
                have HFa := Lib.hid hfail
                clear hcall hcall2 hrgt hlay' hfail hNw hNA hgr hinr hnok hrv hst hiF hbe hsplit hj' hgood
                have Hbox := Lib.hid hbox
                have HO := Lib.hid hO
                have Hlay := Lib.hid hlay
                have Hrow := Lib.hid hrow
                clear hbox hO hlay hrow
                have kn : k < n.nodes.length := by omega
                go_wp2_with fail
                go_region_held3 (fun w' => w'.cell? ⟨w.heap.size, 1, none⟩ = some (.slice (some ⟨b1, off1, none⟩) n.nodes.length d) ∧ w'.cell? ⟨b, off + k, none⟩ = some (.int .i64 ((j : Int) + 1)) ∧ w'.cell? ⟨b1, off1 + j * 10, none⟩ = some (.int .i64 v.op.kind) ∧ w'.cell? ⟨b1, off1 + j * 10 + 1, none⟩ = some (.int .i64 v.op.k) ∧ w'.cell? ⟨b1, off1 + j * 10 + 2, none⟩ = some (.int .i64 v.op.width) ∧ w'.cell? ⟨b1, off1 + j * 10 + 3, none⟩ = some (.int .i64 v.op.step) ∧ w'.cell? ⟨b1, off1 + j * 10 + 4, none⟩ = some (.int .i64 v.op.side) ∧ w'.cell? ⟨b1, off1 + j * 10 + 5, none⟩ = some (.int .i64 v.op.frm) ∧ w'.cell? ⟨b1, off1 + j * 10 + 6, none⟩ = some (.int .i64 v.op.to) ∧ w'.cell? ⟨b1, off1 + j * 10 + 7, none⟩ = some (.slice S v.op.s.length sc) ∧ w'.cell? ⟨b1, off1 + j * 10 + 8, none⟩ = some (.slice J v.ins.length ic) ∧ w'.cell? ⟨b1, off1 + j * 10 + 9, none⟩ = some (.slice Q v.p.length qc)) (first | go_keep | (exact ⟨cell_below hb9 x1, cell_below hb9 hc, cell_below hb9 y0, cell_below hb9 y1, cell_below hb9 y2, cell_below hb9 y3, cell_below hb9 y4, cell_below hb9 y5, cell_below hb9 y6, cell_below hb9 y7, cell_below hb9 y8, cell_below hb9 y9⟩))
                  ((go_at_call 34; refine (HC1.out _ (by exact F1.out) (by exact F2.out) (by exact F3.out) (by exact F4.out)).mono ?_; rintro e w9 ⟨S9, c9, rfl, hI9, h91, h92, hb9⟩))
                have hb8 : Below wr.heap.size wr w9 := ⟨hb9.os, hb9.tape, hb9.output, hb9.size, hb9.block⟩
                have hbw9 := hbw.trans (hb8.mono hbw.size)
                clear y0 y1 y2 y3 y4 y5 y6 y7 y8 y9 hb9 x1 HC1 F1 F2 F3 F4
                by_cases hr2 : r.2 = 0
                · have q1 : (r.2 != 0) = false := by simp [hr2]
                  have hrow9 := Hrow.out.below hb8 (Nat.le_refl _)
                  have hbox9 := Hbox.out.below hb8 Hbox.out.lt
                  have hO9 := HO.out.below hb8 (Nat.le_refl _)
                  have hc9 := cell_below hb8 hc
                  have hj1 : j + 1 < sh.length := by omega
                  obtain ⟨Sm, cm, ym, -⟩ := hrow9.at_ hj1
                  have fm : w9.frozen? ⟨g, j + 1, none⟩ = false := by obtain ⟨vs, _, hk, _⟩ := hrow9; exact hk.frozen (j + 1)
                  have hset := hrow9.set_ (i := j + 1) hI9 h91 h92 (hrow9.apart hI9 (HT.out hr2).1)
                  have HS := Lib.hid hset
                  have HBX := Lib.hid (hbox9.far (p := ⟨g, j + 1, none⟩) hgne (.slice S9 r.1.length c9))
                  have hbw5 := hbw9.setCell (p := ⟨g, j + 1, none⟩) (by simp; omega) (.slice S9 r.1.length c9)
                  have HO5 := Lib.hid (hO9.set_far (p := ⟨g, j + 1, none⟩) HOb.out (.slice S9 r.1.length c9))
                  have HL2 := Lib.hid (HL.out hr2)
                  have j3 : ((j : Int) + 1) < ((n.nodes.length + 1 : Nat) : Int) := by omega
                  have j6 : ((j : Int) + 1).toNat = j + 1 := by omega
                  clear hset hrow9 hbox9 hO9 hr2 hc
                  have HI9 := Lib.hid hI9
                  clear hI9
                  go_wp2_with fail
                  go_roundw
                  case rel => exact ⟨k + 1, by omega, by go_num, HBX.out, hbw5, HO5.out, _, HL2.out, HS.out⟩
                  case measure => simp [intOf]; omega
                · have q1 : (r.2 != 0) = true := by simp [hr2]
                  have hck := Hcheck.out
                  rw [HFa.out hr2] at hck
                  have HC := Lib.hid (hck hr2)
                  have HR2 := Lib.hid hr2
                  have HI9 := Lib.hid hI9
                  clear hI9
                  clear hr2 hck
                  go_wp2_with fail
                  go_ret3
                  exact RefCheckP.err HC.out HR2.out hbw9
              · obtain rfl : k = os.length := by omega
                rw [List.take_length] at hlay
                have hc6 := fun h6 => Hcheck6.out (by rw [hlay]) h6
                have hc7 := fun h6 => Hcheck7.out (by rw [hlay]) h6
                have hg2 := HgoodF.out (by rw [hlay])
                have hsh := Hshp.out
                rw [hlay] at hg2 hsh
                have hsh : sh = Nt.shapes n := hsh
                subst hsh
                have hg2 : Nt.Good os (Nt.shapes n) := hg2
                have i2 : ¬ ((os.length : Int) < (n.nodes.length : Int)) := by omega
                have i3 : ¬ (os.length < n.nodes.length) := by omega
                clear hgood hk hlt
                have Hc6 := Lib.hid hc6
                have Hc7 := Lib.hid hc7
                have Hg2 := Lib.hid hg2
                have Hlay := Lib.hid hlay
                have Hrow := Lib.hid hrow
                have Hbox := Lib.hid hbox
                have HO := Lib.hid hO
                clear hc6 hc7 hg2 hlay hrow hbox hO
                have Hol := Lib.hid hol
                clear hol
                go_wp2_with fail
                clear x1
                obtain ⟨w5, rfl⟩ : ∃ w5, w5 = wr := ⟨wr, rfl⟩
                go_loopw [12, 13, 14] (fun l m i wx => ∃ k : Nat, k ≤ n.nodes.length + 1 ∧ i = .int .i64 k ∧ l = .int .i64 ((Nt.unusedTo n.nodes k).getLastD 0) ∧ m = .int .i64 ((Nt.unusedTo n.nodes k).length : Nat) ∧ Below w5.heap.size w5 wx) (fun _ _ i _ => n.nodes.length + 1 - (intOf i).toNat)
                case atStart => exact ⟨0, Nat.zero_le _, rfl, rfl, rfl, Below.refl _ _⟩
                case round =>
                  obtain ⟨k, hk, rfl, rfl, rfl, hbx⟩ := hrel
                  have hbox5 := Hbox.out.below hbx Hbox.out.lt
                  have hbwx := hbw.trans (hbx.mono hbw.size)
                  have x0 : wr.cell? ⟨w.heap.size, 0, none⟩ = some (.slice A n.inn.length c) := by rw [hbox5.cell]; rfl
                  have x1 : wr.cell? ⟨w.heap.size, 1, none⟩ = some (.slice N n.nodes.length d) := by rw [hbox5.cell]; rfl
                  have hul := Nt.unusedTo_len n.nodes k
                  by_cases hlt : k ≤ n.nodes.length
                  · have HS := Lib.hid (Nt.unusedTo_succ n.nodes k)
                    obtain ⟨L0, hL0⟩ : ∃ L0, (Nt.unusedTo n.nodes k).getLastD 0 = L0 := ⟨_, rfl⟩
                    obtain ⟨c0, hc0⟩ : ∃ c0, (Nt.unusedTo n.nodes k).length = c0 := ⟨_, rfl⟩
                    rw [hc0] at hul
                    rw [hL0, hc0]
                    have hcu := Nt.count_used n.nodes (k : Int)
                    have hcall := ref11_users A N c d n (k : Int) wr Hok.out (HR.out.below hbwx (Nat.le_refl _))
                    generalize Nt.count n.nodes (k : Int) = cn at *
                    have HL0 := Lib.hid hL0
                    have Hc0 := Lib.hid hc0
                    have Hcu := Lib.hid hcu
                    have Hcall := Lib.hid hcall
                    have Hbox5 := Lib.hid hbox5
                    clear hL0 hc0 hcu hcall hbox5
                    go_wp2_with fail
                    refine (Hcall.out).mono ?_
                    rintro e w6 ⟨rfl, hb6⟩
                    have hbx6 := hbx.trans (hb6.mono hbx.size)
                    clear x0 x1
                    by_cases hz : cn = 0
                    · have HU := Lib.hid (Hcu.out.1 hz)
                      have e1 : ((cn : Int) == 0) = true := by simp [hz]
                      have e2 : (cn == 0) = true := by simp [hz]
                      subst hz
                      go_wp2_with fail
                      go_roundw
                      case rel => exact ⟨k + 1, by omega, by go_num, by rw [HS.out, HU.out]; simp, by rw [HS.out, HU.out, if_neg (by simp), List.length_append, Hc0.out]; go_num, hbx6⟩
                      case measure => simp [intOf]; omega
                    · have HU := Lib.hid (show Nt.isUsed n.nodes (k : Int) = true by
                        cases h : Nt.isUsed n.nodes (k : Int)
                        · exact absurd (Hcu.out.2 h) hz
                        · rfl)
                      have e1 : ((cn : Int) == 0) = false := by simp; omega
                      have e2 : (cn == 0) = false := by simp; omega
                      clear hz
                      go_wp2_with fail
                      go_roundw
                      case rel => exact ⟨k + 1, by omega, by go_num, by rw [HS.out, HU.out, if_pos rfl, HL0.out], by rw [HS.out, HU.out, if_pos rfl, Hc0.out], hbx6⟩
                      case measure => simp [intOf]; omega
                  · obtain rfl : k = n.nodes.length + 1 := by omega
                    rw [Nt.unusedTo_all]
                    have i4 : ¬ (((n.nodes.length + 1 : Nat) : Int) ≤ (n.nodes.length : Int)) := by omega
                    have hl1 : (Nt.unused n.nodes).getLastD 0 = Nt.loss n.nodes := rfl
                    rw [hl1]
                    have hlok : Nt.lossOk n.nodes = decide ((Nt.unused n.nodes).length = 1 ∧ Nt.loss n.nodes ≠ 0) := rfl
                    rw [Nt.unusedTo_all] at hul
                    clear hl1
                    by_cases hu1 : (Nt.unused n.nodes).length = 1
                    rotate_left
                    · have HC := Lib.hid (Hc6.out (by rw [hlok]; simp [hu1]))
                      have e1 : (((Nt.unused n.nodes).length : Int) != 1) = true := by rw [bne_iff_ne]; omega
                      have e2 : ((Nt.unused n.nodes).length != 1) = true := by rw [bne_iff_ne]; omega
                      generalize (Nt.unused n.nodes).length = ul at *
                      have Hlok := Lib.hid hlok
                      clear hlok
                      clear hu1
                      go_wp2_with fail
                      go_ret3
                      exact RefCheckP.err HC.out (by omega) hbwx
                    · by_cases hl0 : Nt.loss n.nodes = 0
                      · have HC := Lib.hid (Hc6.out (by rw [hlok]; simp [hl0]))
                        rw [hu1, hl0]
                        clear hu1 hl0 hlok
                        go_wp2_with fail
                        go_ret3
                        exact RefCheckP.err HC.out (by omega) hbwx
                      · have hlo : Nt.lossOk n.nodes = true := by rw [hlok]; simp [hu1, hl0]
                        have hlm := (Nt.loss_mem hlo).2
                        have hch := Hc7.out hlo
                        obtain ⟨l, hl⟩ : ∃ l : Nat, Nt.loss n.nodes = (l : Int) := ⟨(Nt.loss n.nodes).toNat, by omega⟩
                        have Hl := Lib.hid hl
                        rw [hu1]
                        rw [hl] at hlm hch hl0 ⊢
                        rw [Int.toNat_natCast] at hch
                        have hll : l < (Nt.shapes n).length := by omega
                        have hgl := Hg2.out (l : Int) (.inr ((Hfull.out _).2 (by omega)))
                        rw [Int.toNat_natCast, gets_at hll] at hgl
                        rw [gets_at hll] at hch
                        have hrow5 := Hrow.out.below hbx (Nat.le_refl _)
                        obtain ⟨Sl, sc, hcS, hIS, hs1, hs2, -⟩ := hrow5.at_ hll
                        have hsz := ref03_size Sl sc _ wr hgl hIS
                        have e1 : ((l : Int) == 0) = false := by simp; omega
                        have e1' : (l == 0) = false := by simp; omega
                        have l0 : (0 : Int) ≤ (l : Int) := by omega
                        have l1 : (l : Int) < ((n.nodes.length + 1 : Nat) : Int) := by omega
                        generalize (Nt.shapes n)[l] = s at *
                        have Hrow5 := Lib.hid hrow5
                        have Hch := Lib.hid hch
                        have Hl := Lib.hid hl
                        have Hsz := Lib.hid hsz
                        have HIS := Lib.hid hIS
                        have Hgl := Lib.hid hgl
                        have Hlo := Lib.hid hlo
                        have Hlok := Lib.hid hlok
                        clear hrow5 hch hl hsz hIS hgl hlo hlok
                        clear hu1 hl0
                        go_wp2_with fail
                        refine (Hsz.out).mono ?_
                        rintro e w7 ⟨rfl, rfl⟩
                        by_cases hp : Safe.prod s = 1
                        · have HC := Lib.hid (show Nt.check n = 0 by rw [Hch.out, if_neg (by simp [hp])])
                          have e2 : (Safe.prod s != 1) = false := by simp [hp]
                          clear hp
                          go_wp2_with fail
                          go_ret3
                          exact ⟨hbwx, .inl ⟨HC.out, g, by rw [Hl.out]; rfl, by omega, Hrow5.out⟩⟩
                        · have HC := Lib.hid (show Nt.check n = 23 by rw [Hch.out, if_pos hp])
                          have e2 : (Safe.prod s != 1) = true := by simp [hp]
                          clear hp
                          go_wp2_with fail
                          go_ret3
                          exact RefCheckP.err HC.out (by omega) hbwx
end Go.Proofs.YtnffjfjhbjeaiaaGreatDoor
/- The reference of layer 21: Lower: contract. -/
namespace Go.Proofs.YtnffjfjhbjeaiaaGreatDoor
open Go.RowKit
/-- A lowering in a box of the caller's. -/
structure RsX (g : Nat) (F : RsF) (n : NetD) (lo : Int) (keep : List Int) (V : RsV) (y : RtD) (w0 w : World) : Prop where
  later : Later w0 w
  hg : w0.heap.size ≤ g
  box : Blk w g 87 (F.cells V n lo keep y)
  at_ : V.At y w
  off : V.Off y g
section
variable {g : Nat} {F : RsF} {V V3 : RsV} {n : NetD} {lo : Int} {keep : List Int} {y y3 : RtD} {w0 w w' : World}
theorem RsX.to_later (k : RsX g F n lo keep V y w0 w) (hl : Later w w') : RsX g F n lo keep V y w0 w' := ⟨k.later.trans hl, k.hg, hl.blk k.box, k.at_.later hl, k.off⟩
theorem RsX.put (k : RsX g F n lo keep V y w0 w) (hl : Later w w') (hA : V3.At y3 w') (ho : ∀ g, g < w.heap.size → V.Off y g → V3.Off y3 g) :
    RsX g F n lo keep V3 y3 w0 (set7 w' g (.slice F.A n.inn.length F.c) (.slice F.N n.nodes.length F.d) (.int .i64 lo) (.slice F.K keep.length F.ck) (.slice V3.Th y3.there.length V3.ct) (.slice none 0 0) (.slice V3.C y3.code.length V3.cc)) :=
  ⟨later7 (k.later.trans hl) k.hg _ _ _ _ _ _ _, k.hg, (hl.blk k.box).set7 rfl _ _ _ _ _ _ _, hA.set7 (ho g k.box.lt k.off) _ _ _ _ _ _ _, ho g k.box.lt k.off⟩
end
theorem Ints.drop {w : World} {b off : Nat} {zs : List Int} (h : Ints .i64 w (some ⟨b, off, none⟩) zs) (k : Nat) : Ints .i64 w (some ⟨b, off + k, none⟩) (zs.drop k) := fun j hj => by
  have hj2 : k + j < zs.length := by simp at hj; omega
  obtain ⟨b2, o2, e, hb, hc⟩ := h (k + j) hj2
  injection e with e
  injection e with e1 e2
  subst e1 e2
  refine ⟨b, off + k, rfl, hb, ?_⟩
  rw [Nat.add_assoc, hc]
  simp
theorem Ints.take {w : World} {A : Option Addr} {zs : List Int} (h : Ints .i64 w A zs) (k : Nat) : Ints .i64 w A (zs.take k) := fun j hj => by
  have hj2 : j < zs.length := by simp at hj; omega
  have hj3 : j < k := by simp at hj; omega
  obtain ⟨b2, o2, e, hb, hc⟩ := h j hj2
  refine ⟨b2, o2, e, hb, ?_⟩
  rw [hc]
  simp [hj3]
def RsL (cd : List (Int × Int)) (w : World) (e : Ending) (w' : World) : Prop :=
  ∃ C cc, e = .returned (.slice C cd.length cc) ∧ Pairs w' C cd ∧ Later w w'
set_option maxHeartbeats 32000000 in
set_option maxRecDepth 100000 in
theorem ref21_lower (A N K : Option Addr) (c d ck : Nat) (n : NetD) (keep : List Int) (w : World) (hok : n.ok) (hck : Nt.check n = 0) (h12 : n.nodes.length ≤ 12) (hR : NetR w A N n) (hd : n.nodes.length ≤ d) (hc : n.inn.length ≤ c) (hcm : c ≤ 9223372036854775807) (hK : Ints .i64 w K keep) (hkl : keep.length ≤ 1000) :
    Calls Tryz.prog 12 #[.agg #[.slice A n.inn.length c, .slice N n.nodes.length d], .slice K keep.length ck] w (RsL (Rt.loweredD n keep).code w) := by
  have hl0 : Later w (w.alloc (.cells #[.slice A n.inn.length c, .slice N n.nodes.length d] 39)) := (Later.refl w).alloc _
  have hk0 := Blk.new w 39 #[.slice A n.inn.length c, .slice N n.nodes.length d]
  have hle := Rt.loweredD_eq n keep
  have hso := Rt.order_len hck
  have hrng : ∀ u ∈ Nt.sorted n.nodes, 1 ≤ u ∧ u ≤ n.nodes.length := Kn.order_rng _ _
  have Hok := Lib.hid hok
  have Hck := Lib.hid hck
  have HR := Lib.hid hR
  have HK := Lib.hid hK
  have Hl0 := Lib.hid hl0
  have Hk0 := Lib.hid hk0
  have Hle := Lib.hid hle
  have Hso := Lib.hid hso
  have Hrng := Lib.hid hrng
  clear hok hck hR hK hl0 hk0 hle hso hrng
  go_enter Tryz.func12, Tryz.ntmps12
  go_wp2_with fail
  generalize w.alloc (.cells #[.slice A n.inn.length c, .slice N n.nodes.length d] 39) = w1 at *
  refine (ref11_order A N c d n w1 Hok.out (HR.out.below Hl0.out (Nat.le_refl _))).mono ?_
  rintro e w2 ⟨O, oc, rfl, hO, ho1, ho2, hb2⟩
  have hl2 : Later w1 w2 := hb2
  have hk2 := hl2.blk Hk0.out
  have hlw2 := Hl0.out.trans hl2
  have x0 := hk2.cell 0
  have x1 := hk2.cell 1
  simp at x0 x1
  have Hl2 := Lib.hid hl2
  have Hk2 := Lib.hid hk2
  have Hlw2 := Lib.hid hlw2
  have HO := Lib.hid hO
  clear hl2 hk2 hlw2 hO
  clear hb2
  go_wp2_with fail
  refine (ref11_check A N c d n w2 Hok.out (HR.out.below Hlw2.out (Nat.le_refl _)) hd hc hcm).mono ?_
  rintro e w3 ⟨hb3, ⟨-, gg, rfl, -, -⟩ | ⟨hc', -⟩⟩
  rotate_left
  · exact absurd Hck.out hc'
  have hl3 : Later w2 w3 := hb3
  have hk3 := hl3.blk Hk2.out
  have hlw3 := Hlw2.out.trans hl3
  have hO3 := HO.out.below hl3 (Nat.le_refl _)
  clear x0 x1
  have x0 := hk3.cell 0
  have x1 := hk3.cell 1
  simp at x0 x1
  generalize hlo : Nt.loss n.nodes = lo at *
  have Hlo := Lib.hid hlo
  clear hlo
  have hbx := Blk.new w3 87 (RsF.cells ⟨A, N, K, c, d, ck⟩ ⟨none, none, 0, 0⟩ n lo keep ⟨[], []⟩)
  have h34 : Later w3 (w3.alloc (.cells (RsF.cells ⟨A, N, K, c, d, ck⟩ ⟨none, none, 0, 0⟩ n lo keep ⟨[], []⟩) 87)) := (Later.refl w3).alloc _
  have hX : RsX w3.heap.size ⟨A, N, K, c, d, ck⟩ n lo keep ⟨none, none, 0, 0⟩ ⟨[], []⟩ w3 (w3.alloc (.cells (RsF.cells ⟨A, N, K, c, d, ck⟩ ⟨none, none, 0, 0⟩ n lo keep ⟨[], []⟩) 87)) :=
    ⟨h34, Nat.le_refl _, hbx, ⟨fun j hj => by simp at hj, fun j hj => by simp at hj⟩, ⟨fun h => absurd rfl h, fun h => absurd rfl h⟩⟩
  change RsX _ _ _ _ _ _ _ _ (w3.alloc (.cells #[.slice A n.inn.length c, .slice N n.nodes.length d, .int .i64 lo, .slice K keep.length ck, .slice none 0 0, .slice none 0 0, .slice none 0 0] 87)) at hX
  have HX := Lib.hid hX
  have Hk3 := Lib.hid hk3
  have Hlw3 := Lib.hid hlw3
  have HO3 := Lib.hid hO3
  clear hX hk3 hlw3 hO3
  clear hb3 hl3 hbx h34 HO Hk2 Hlw2 Hl2 Hl0 Hk0
  go_upto_region 4 with fail
  clear x0 x1
  generalize w3.alloc (.cells #[.slice A n.inn.length c, .slice N n.nodes.length d, .int .i64 lo, .slice K keep.length ck, .slice none 0 0, .slice none 0 0, .slice none 0 0] 87) = w4 at *
  generalize w3.heap.size = g at *
  have HRK := Lib.hid (fun (id : Nat) (h1 : 1 ≤ id) (h2 : id ≤ n.nodes.length) => (show Rt.rank n id < n.nodes.length + 1 by
    have hu : (id : Int) ∈ Nt.sorted n.nodes := (Kn.order_full Hso.out _).2 ⟨by omega, by omega⟩
    have h1 := List.idxOf_lt_length_of_mem hu
    have h2 := Hso.out
    unfold Rt.rank
    omega))
  have HS1 := Lib.hid (fun k => Rt.fwdDN_step n keep k)
  have HS2 := Lib.hid (fun k => Rt.bwdDN_step n keep k)
  have HB1 := Lib.hid (fun k (h : k ≤ n.nodes.length) => Rt.fwdDN_bd Hck.out h12 keep (k := k) (by rw [Hso.out]; exact h))
  have HB2 := Lib.hid (fun k (h : k ≤ n.nodes.length) => Rt.bwdDN_bd Hck.out h12 keep (k := k) (by rw [Hso.out]; exact h))
  have HB3 := Lib.hid (Rt.midDN_bd Hck.out h12 keep)
  have HB4 := Lib.hid (fun k (h : k < n.nodes.length) j => Rt.bwdDN_fold Hck.out h12 keep (k := k) (by rw [Hso.out]; exact h) j)
  have HG := Lib.hid (fun k (id : Int) => (show Rt.gT n keep k id = (!hasB keep id && (decide (id ≠ lo) && !Rt.pend (Nt.insF n.nodes) id ((Nt.sorted n.nodes).drop (k + 1)))) by rw [← Hlo.out]; rfl))
  have HD := Lib.hid (fun p (id : Int) => (show Rt.dT n keep p id = (!hasB keep id || !Rt.pend (Nt.insF n.nodes) id ((Nt.sorted n.nodes).take (p - 1))) from rfl))
  have HMid := Lib.hid (show Rt.midDN n keep = Rt.addD 5 0 (Rt.dropD lo (Rt.addD 4 0 (Rt.fwdDN n keep n.nodes.length))) by rw [← Hlo.out, ← Hso.out]; rfl)
  generalize Nt.sorted n.nodes = os at *
  have HOL := Lib.hid (show os.length = n.nodes.length from Hso.out)
  have hosl := Hso.out
  rw [hosl] at ho1
  rw [hosl]
  clear hosl
  go_wp2_with fail
  go_loopw [10] (fun t wx => ∃ (k : Nat) (V : RsV), k ≤ n.nodes.length ∧ t = .int .i64 (k : Int) ∧ RsX g ⟨A, N, K, c, d, ck⟩ n lo keep V (Rt.fwdDN n keep k) w3 wx) (fun t _ => n.nodes.length - (intOf t).toNat)
  case atStart => exact ⟨0, _, Nat.zero_le _, rfl, HX.out⟩
  case round =>
    obtain ⟨k, V, hk, rfl, hXk⟩ := hrel
    clear HX
    by_cases hlt : k < n.nodes.length
    · have hbk := HB1.out k hk
      have hst := HS1.out k
      obtain ⟨b2, off2, hOe, -, hc⟩ := HO3.out.below hXk.later (Nat.le_refl _) k (by rw [HOL.out]; exact hlt)
      have hur := Hrng.out (os.getD k 0) (by rw [getD_at (show k < os.length by rw [HOL.out]; exact hlt)]; exact List.getElem_mem _)
      generalize os.getD k 0 = u at *
      generalize Rt.fwdDN n keep k = y at *
      have HST := Lib.hid hst
      have hld : Later wr wr.drew := (Later.refl _).drew
      have hXd := hXk.to_later hld
      have HCall := Lib.hid (ref21_reckon ⟨A, N, K, c, d, ck⟩ V n lo keep y wr.drew hXd.at_ (by omega) (by omega) 1 u)
      obtain ⟨y0, y1, y2, y3, y4, y5, y6⟩ := cells7 hXk.box
      have k0 : (k : Int) < n.nodes.length := by omega
      subst hOe
      have HXd := Lib.hid hXd
      clear hXd
      clear hst hld hXk
      go_upto_region 7 with fail
      go_still_tail 5, (by kernel_rfl)
      change wpList _ _ _ _ _ wr.drew
      clear y0 y1 y2 y3 y4 y5 y6 hc
      generalize wr.drew = wd at *
      go_wp2_with fail
      refine HCall.out.mono ?_
      rintro e w5 ⟨V3, rfl, hA3, ho3, hl3⟩
      have hX5 := HXd.out.put hl3 hA3 ho3
      obtain ⟨d0, d1, d2, d3, d4, d5, d6⟩ := cells7 (hl3.blk HXd.out.box)
      obtain ⟨f0, f1, f2, f3, f4, f5, f6⟩ := frozen7 (hl3.blk HXd.out.box)
      have hx0c : (Rt.compD 1 u y).code.length = y.code.length + 1 := by unfold Rt.compD; simp
      have hx0t : (Rt.compD 1 u y).there.length = y.there.length + 1 := by unfold Rt.compD; simp
      generalize Rt.compD 1 u y = x0 at *
      rw [show RsF.cells ⟨A, N, K, c, d, ck⟩ V3 n lo keep x0 = #[.slice A n.inn.length c, .slice N n.nodes.length d, .int .i64 lo, .slice K keep.length ck, .slice V3.Th x0.there.length V3.ct, .slice none 0 0, .slice V3.C x0.code.length V3.cc] from rfl]
      unfold set7 at hX5
      have hxc : x0.code.length ≤ 300 := by omega
      have hxt : x0.there.length ≤ 20 := by omega
      have HX5 := Lib.hid hX5
      clear hX5
      clear hA3 ho3 hl3 HCall hx0c hx0t
      go_upto_region 8 with fail
      clear d0 d1 d2 d3 d4 d5 d6 f0 f1 f2 f3 f4 f5 f6
      generalize ((((((w5.setCell ⟨g, 0, none⟩ (.slice A n.inn.length c)).setCell ⟨g, 1, none⟩ (.slice N n.nodes.length d)).setCell ⟨g, 2, none⟩ (.int .i64 lo)).setCell ⟨g, 3, none⟩ (.slice K keep.length ck)).setCell ⟨g, 4, none⟩ (.slice V3.Th x0.there.length V3.ct)).setCell ⟨g, 5, none⟩ (.slice none 0 0)).setCell ⟨g, 6, none⟩ (.slice V3.C x0.code.length V3.cc) = w6 at *
      go_wp2_with fail
      obtain ⟨wo, rfl⟩ : ∃ wo, wo = wr := ⟨wr, rfl⟩
      go_loopw [11] (fun t wx => ∃ (m : Nat) (V : RsV), m ≤ n.nodes.length ∧ t = .int .i64 ((m : Int) + 1) ∧ RsX g ⟨A, N, K, c, d, ck⟩ n lo keep V (Rt.sweepD (Rt.gT n keep k) m x0) w3 wx) (fun t _ => n.nodes.length + 1 - (intOf t).toNat)
      case atStart => exact ⟨0, V3, Nat.zero_le _, rfl, HX5.out⟩
      case round =>
        clear HX5
        obtain ⟨m, V4, hm, rfl, hX4⟩ := hrel
        have hsb := Rt.sweepD_bd (g := Rt.gT n keep k) m x0
        have hss := Rt.sweepD_step (Rt.gT n keep k) m x0
        rw [HG.out] at hss
        by_cases hml : m < n.nodes.length
        · generalize Rt.sweepD (Rt.gT n keep k) m x0 = y at *
          have HA1 := Lib.hid (fun q => ref18_has V4.Th V4.ct y.there ((m : Int) + 1) (wr.drewN q) (by omega) (hX4.at_.there.drewN q))
          have HA2 := Lib.hid (fun q => ref18_has K ck keep ((m : Int) + 1) (wr.drewN q) (by omega) ((HK.out.below (Hlw3.out.trans hX4.later) (Nat.le_refl _)).drewN q))
          obtain ⟨-, -, -, -, y4, -, -⟩ := cells7 hX4.box
          have m0 : (m : Int) + 1 ≤ n.nodes.length := by omega
          have hl2 := Lib.hid (fun q => hX4.to_later (Later.drewN (Later.refl wr) q))
          cases h1 : hasB y.there ((m : Int) + 1)
          · have HE := Lib.hid (show Rt.sweepD (Rt.gT n keep k) (m + 1) x0 = y by rw [hss, show y.there.contains ((m : Int) + 1) = false from h1]; simp)
            rw [h1] at HA1
            clear hss h1 hsb hX4 HA2
            go_wp2_with fail
            go_quiet ((go_at_call 24; exact quiet_same (HA1.out _)))
            go_wp2_with fail
            go_roundw
            case rel => exact ⟨m + 1, V4, by omega, by go_num, by rw [HE.out]; exact hl2.out _⟩
            case measure => simp [intOf]; omega
          rw [h1] at HA1
          cases h2 : hasB keep ((m : Int) + 1)
          rotate_left
          · have HE := Lib.hid (show Rt.sweepD (Rt.gT n keep k) (m + 1) x0 = y by rw [hss, h2]; simp)
            rw [h2] at HA2
            clear hss h1 h2 hsb hX4
            go_wp2_with fail
            go_quiet ((go_at_call 24; first | (with_reducible exact quiet_same (HA1.out _)) | (with_reducible exact quiet_same (HA2.out _))))
            go_wp2_with fail
            go_roundw
            case rel => exact ⟨m + 1, V4, by omega, by go_num, by rw [HE.out]; exact hl2.out _⟩
            case measure => simp [intOf]; omega
          rw [h2] at HA2
          by_cases h3 : (m : Int) + 1 = lo
          · have HE := Lib.hid (show Rt.sweepD (Rt.gT n keep k) (m + 1) x0 = y by rw [hss]; simp [h3])
            have e3 : ((m : Int) + 1 != lo) = false := by simp [h3]
            clear hss h1 h2 h3 hsb hX4
            go_wp2_with fail
            go_quiet ((go_at_call 24; first | (with_reducible exact quiet_same (HA1.out _)) | (with_reducible exact quiet_same (HA2.out _))))
            go_wp2_with fail
            go_roundw
            case rel => exact ⟨m + 1, V4, by omega, by go_num, by rw [HE.out]; exact hl2.out _⟩
            case measure => simp [intOf]; omega
          have e3 : ((m : Int) + 1 != lo) = true := by simp [h3]
          have hss2 : Rt.sweepD (Rt.gT n keep k) (m + 1) x0 = if !Rt.pend (Nt.insF n.nodes) ((m : Int) + 1) (os.drop (k + 1)) then Rt.dropD ((m : Int) + 1) y else y := by
            rw [hss, show y.there.contains ((m : Int) + 1) = true from h1, h2]; simp [h3]
          have HP := Lib.hid (fun (W : World) (h : Later w3 W) (M : Option Addr) (hM : Ints .i64 w3 M (os.drop (k + 1))) (q : Nat) => (show Calls Tryz.prog 38 #[.agg #[.slice A n.inn.length c, .slice N n.nodes.length d], .int .i64 ((m : Int) + 1), .slice M (n.nodes.length - (k + 1)) q] W fun e w' => e = .returned (.bool (Rt.pend (Nt.insF n.nodes) ((m : Int) + 1) (os.drop (k + 1)))) ∧ Later W w' from by
            have hp := ref21_pending A N M c d q n ((m : Int) + 1) (os.drop (k + 1)) w3 W Hok.out (HR.out.below Hlw3.out (Nat.le_refl _)) hM h (by have := HOL.out; rw [List.length_drop]; omega) (fun z hz => Hrng.out z (List.mem_of_mem_drop hz))
            rw [show (os.drop (k + 1)).length = n.nodes.length - (k + 1) by rw [List.length_drop, HOL.out]] at hp
            exact hp))
          clear hss h3
          have sk0 : (0 : Int) ≤ (k : Int) + 1 := by omega
          have sk1 : (k : Int) + 1 ≤ (n.nodes.length : Int) := by omega
          have sk2 : (n.nodes.length : Int) ≤ (oc : Int) := by omega
          have wk : IntKind.i64.wrap ((k : Int) + 1) = (k : Int) + 1 := IntWalk.i64_in _ (by omega)
          have tk : ((k : Int) + 1).toNat = k + 1 := by omega
          have kk : k + 1 ≤ n.nodes.length := by omega
          by_cases hcap : oc = k + 1
          · subst hcap
            have HM := Lib.hid (show Ints .i64 w3 (some ⟨b2, off2, none⟩) (os.drop (k + 1)) by
              intro j hj; have := HOL.out; rw [List.length_drop] at hj; omega)
            have h00 : n.nodes.length - (k + 1) = 0 := by omega
            rw [h00] at HP
            clear h00
            cases hpd : Rt.pend (Nt.insF n.nodes) ((m : Int) + 1) (os.drop (k + 1))
            all_goals
              rw [hpd] at HP hss2
              have HE := Lib.hid hss2
              have x0' := hX4.later.cell (Hk3.out.cell 0)
              have x1' := hX4.later.cell (Hk3.out.cell 1)
              simp at x0' x1'
              have HKp := Lib.hid (fun (W : World) (h : Later wr W) => (⟨h.cell y4, h.cell x0', h.cell x1'⟩ : W.cell? ⟨g, 4, none⟩ = some (.slice V4.Th y.there.length V4.ct) ∧ W.cell? ⟨w.heap.size, 0, none⟩ = some (.slice A n.inn.length c) ∧ W.cell? ⟨w.heap.size, 1, none⟩ = some (.slice N n.nodes.length d)))
              have HA3 := Lib.hid (fun (W : World) (h : Later wr W) => ref18_has V4.Th V4.ct y.there ((m : Int) + 1) W (by omega) (hX4.at_.there.below h (Nat.le_refl _)))
              have HA4 := Lib.hid (fun (W : World) (h : Later wr W) => ref18_has K ck keep ((m : Int) + 1) W (by omega) (HK.out.below (Hlw3.out.trans (hX4.later.trans h)) (Nat.le_refl _)))
              rw [h1] at HA3
              rw [h2] at HA4
              have HL3 := Lib.hid hX4.later
              have HX4 := Lib.hid hX4
              clear hX4
              clear hss2 hpd HA1 HA2 h1 h2
              go_wp2_with fail
              go_region_held3 (fun W => W.cell? ⟨g, 4, none⟩ = some (.slice V4.Th y.there.length V4.ct) ∧ W.cell? ⟨w.heap.size, 0, none⟩ = some (.slice A n.inn.length c) ∧ W.cell? ⟨w.heap.size, 1, none⟩ = some (.slice N n.nodes.length d)) (first | exact HKp.out _ (show Later wr _ by repeat (first | (with_reducible exact Later.refl _) | (with_reducible apply Later.drew) | (with_reducible refine Later.trans ?_ (by assumption)))) | fail)
                (first
                | (go_at_call 24; (first | (with_reducible refine (HA3.out _ (show Later wr _ by repeat (first | (with_reducible exact Later.refl _) | (with_reducible apply Later.drew)))).mono ?_) | (with_reducible refine (HA4.out _ (show Later wr _ by repeat (first | (with_reducible exact Later.refl _) | (with_reducible apply Later.drew)))).mono ?_)); rintro e w' ⟨rfl, rfl⟩)
                | (go_at_call 38; refine (HP.out _ (show Later w3 _ by repeat (first | (with_reducible exact HL3.out) | (with_reducible apply Later.drew))) _ HM.out _).mono ?_; rintro e w7 ⟨rfl, hl7⟩)
                | fail)
            · have HX7 := Lib.hid (HX4.out.to_later (show Later wr w7 by repeat (first | (with_reducible exact Later.refl _) | (with_reducible apply Later.drew) | (with_reducible refine Later.trans ?_ (by assumption)))))
              have HE2 := Lib.hid (HE.out.trans (if_pos rfl))
              clear HX4 HL3 HKp HA3 HA4 HP y4 x0' x1' hl7 HE
              have HDr := Lib.hid (ref21_drop ⟨A, N, K, c, d, ck⟩ V4 n lo keep y w7 HX7.out.at_ (by omega) (by omega) ((m : Int) + 1))
              obtain ⟨y0, y1, y2, y3, y4, y5, y6⟩ := cells7 HX7.out.box
              go_wp2_with fail
              refine HDr.out.mono ?_
              rintro e w8 ⟨V8, rfl, hA8, ho8, hl8⟩
              have hX9 := HX7.out.put hl8 hA8 ho8
              obtain ⟨d0, d1, d2, d3, d4, d5, d6⟩ := cells7 (hl8.blk HX7.out.box)
              obtain ⟨f0, f1, f2, f3, f4, f5, f6⟩ := frozen7 (hl8.blk HX7.out.box)
              generalize Rt.dropD ((m : Int) + 1) y = z at *
              rw [show RsF.cells ⟨A, N, K, c, d, ck⟩ V8 n lo keep z = #[.slice A n.inn.length c, .slice N n.nodes.length d, .int .i64 lo, .slice K keep.length ck, .slice V8.Th z.there.length V8.ct, .slice none 0 0, .slice V8.C z.code.length V8.cc] from rfl]
              unfold set7 at hX9
              have HX9 := Lib.hid hX9
              clear hX9
              clear hA8 ho8 hl8 HDr y0 y1 y2 y3 y4 y5 y6
              go_wp2_with fail
              go_roundw
              case rel => exact ⟨m + 1, V8, by omega, by go_num, by rw [HE2.out]; exact HX9.out⟩
              case measure => simp [intOf]; omega
            · have HX7 := Lib.hid (HX4.out.to_later (show Later wr w7 by repeat (first | (with_reducible exact Later.refl _) | (with_reducible apply Later.drew) | (with_reducible refine Later.trans ?_ (by assumption)))))
              have HE2 := Lib.hid (HE.out.trans (if_neg (by simp)))
              clear HX4 HL3 HKp HA3 HA4 HP y4 x0' x1' hl7 HE
              go_wp2_with fail
              go_roundw
              case rel => exact ⟨m + 1, V4, by omega, by go_num, by rw [HE2.out]; exact HX7.out⟩
              case measure => simp [intOf]; omega
          · have HM := Lib.hid (HO3.out.drop (k + 1))
            cases hpd : Rt.pend (Nt.insF n.nodes) ((m : Int) + 1) (os.drop (k + 1))
            all_goals
              rw [hpd] at HP hss2
              have HE := Lib.hid hss2
              have x0' := hX4.later.cell (Hk3.out.cell 0)
              have x1' := hX4.later.cell (Hk3.out.cell 1)
              simp at x0' x1'
              have HKp := Lib.hid (fun (W : World) (h : Later wr W) => (⟨h.cell y4, h.cell x0', h.cell x1'⟩ : W.cell? ⟨g, 4, none⟩ = some (.slice V4.Th y.there.length V4.ct) ∧ W.cell? ⟨w.heap.size, 0, none⟩ = some (.slice A n.inn.length c) ∧ W.cell? ⟨w.heap.size, 1, none⟩ = some (.slice N n.nodes.length d)))
              have HA3 := Lib.hid (fun (W : World) (h : Later wr W) => ref18_has V4.Th V4.ct y.there ((m : Int) + 1) W (by omega) (hX4.at_.there.below h (Nat.le_refl _)))
              have HA4 := Lib.hid (fun (W : World) (h : Later wr W) => ref18_has K ck keep ((m : Int) + 1) W (by omega) (HK.out.below (Hlw3.out.trans (hX4.later.trans h)) (Nat.le_refl _)))
              rw [h1] at HA3
              rw [h2] at HA4
              have HL3 := Lib.hid hX4.later
              have HX4 := Lib.hid hX4
              clear hX4
              clear hss2 hpd HA1 HA2 h1 h2
              go_wp2_with fail
              go_region_held3 (fun W => W.cell? ⟨g, 4, none⟩ = some (.slice V4.Th y.there.length V4.ct) ∧ W.cell? ⟨w.heap.size, 0, none⟩ = some (.slice A n.inn.length c) ∧ W.cell? ⟨w.heap.size, 1, none⟩ = some (.slice N n.nodes.length d)) (first | exact HKp.out _ (show Later wr _ by repeat (first | (with_reducible exact Later.refl _) | (with_reducible apply Later.drew) | (with_reducible refine Later.trans ?_ (by assumption)))) | fail)
                (first
                | (go_at_call 24; (first | (with_reducible refine (HA3.out _ (show Later wr _ by repeat (first | (with_reducible exact Later.refl _) | (with_reducible apply Later.drew)))).mono ?_) | (with_reducible refine (HA4.out _ (show Later wr _ by repeat (first | (with_reducible exact Later.refl _) | (with_reducible apply Later.drew)))).mono ?_)); rintro e w' ⟨rfl, rfl⟩)
                | (go_at_call 38; refine (HP.out _ (show Later w3 _ by repeat (first | (with_reducible exact HL3.out) | (with_reducible apply Later.drew))) _ HM.out _).mono ?_; rintro e w7 ⟨rfl, hl7⟩)
                | fail)
            · have HX7 := Lib.hid (HX4.out.to_later (show Later wr w7 by repeat (first | (with_reducible exact Later.refl _) | (with_reducible apply Later.drew) | (with_reducible refine Later.trans ?_ (by assumption)))))
              have HE2 := Lib.hid (HE.out.trans (if_pos rfl))
              clear HX4 HL3 HKp HA3 HA4 HP y4 x0' x1' hl7 HE
              have HDr := Lib.hid (ref21_drop ⟨A, N, K, c, d, ck⟩ V4 n lo keep y w7 HX7.out.at_ (by omega) (by omega) ((m : Int) + 1))
              obtain ⟨y0, y1, y2, y3, y4, y5, y6⟩ := cells7 HX7.out.box
              go_wp2_with fail
              refine HDr.out.mono ?_
              rintro e w8 ⟨V8, rfl, hA8, ho8, hl8⟩
              have hX9 := HX7.out.put hl8 hA8 ho8
              obtain ⟨d0, d1, d2, d3, d4, d5, d6⟩ := cells7 (hl8.blk HX7.out.box)
              obtain ⟨f0, f1, f2, f3, f4, f5, f6⟩ := frozen7 (hl8.blk HX7.out.box)
              generalize Rt.dropD ((m : Int) + 1) y = z at *
              rw [show RsF.cells ⟨A, N, K, c, d, ck⟩ V8 n lo keep z = #[.slice A n.inn.length c, .slice N n.nodes.length d, .int .i64 lo, .slice K keep.length ck, .slice V8.Th z.there.length V8.ct, .slice none 0 0, .slice V8.C z.code.length V8.cc] from rfl]
              unfold set7 at hX9
              have HX9 := Lib.hid hX9
              clear hX9
              clear hA8 ho8 hl8 HDr y0 y1 y2 y3 y4 y5 y6
              go_wp2_with fail
              go_roundw
              case rel => exact ⟨m + 1, V8, by omega, by go_num, by rw [HE2.out]; exact HX9.out⟩
              case measure => simp [intOf]; omega
            · have HX7 := Lib.hid (HX4.out.to_later (show Later wr w7 by repeat (first | (with_reducible exact Later.refl _) | (with_reducible apply Later.drew) | (with_reducible refine Later.trans ?_ (by assumption)))))
              have HE2 := Lib.hid (HE.out.trans (if_neg (by simp)))
              clear HX4 HL3 HKp HA3 HA4 HP y4 x0' x1' hl7 HE
              go_wp2_with fail
              go_roundw
              case rel => exact ⟨m + 1, V4, by omega, by go_num, by rw [HE2.out]; exact HX7.out⟩
              case measure => simp [intOf]; omega
        · obtain rfl : m = n.nodes.length := by omega
          have hX5 := hX4
          rw [← HST.out] at hX5
          have HX5 := Lib.hid hX5
          clear hX5
          clear hX4 hss hsb
          go_wp2_with fail
          go_roundw
          case rel => exact ⟨k + 1, V4, by omega, by go_num, HX5.out⟩
          case measure => simp [intOf]; omega
    · obtain rfl : k = n.nodes.length := by omega
      have HXk := Lib.hid hXk
      clear hXk
      have hbN := HB1.out n.nodes.length (Nat.le_refl _)
      have hbM := HB3.out
      rw [HMid.out] at hbM
      have HMe := HMid
      generalize Rt.fwdDN n keep n.nodes.length = ya at *
      have HC1 := Lib.hid (ref21_do ⟨A, N, K, c, d, ck⟩ V n lo keep ya wr HXk.out.at_ (by omega) 4 0)
      obtain ⟨y0, y1, y2, y3, y4, y5, y6⟩ := cells7 HXk.out.box
      have hbb : (Rt.addD 4 0 ya).code.length ≤ 201 ∧ (Rt.addD 4 0 ya).there.length ≤ 13 := by unfold Rt.addD; simp; omega
      go_wp2_with fail
      clear y0 y1 y2 y3 y4 y5 y6
      refine HC1.out.mono ?_
      rintro e w5 ⟨V5, rfl, hA9, ho9, hl9⟩
      have hX9 := HXk.out.put hl9 hA9 ho9
      obtain ⟨d0, d1, d2, d3, d4, d5, d6⟩ := cells7 (hl9.blk HXk.out.box)
      obtain ⟨f0, f1, f2, f3, f4, f5, f6⟩ := frozen7 (hl9.blk HXk.out.box)
      generalize hz : Rt.addD 4 0 ya = yb at *
      have Hyb := Lib.hid hz
      rw [show RsF.cells ⟨A, N, K, c, d, ck⟩ V5 n lo keep yb = #[.slice A n.inn.length c, .slice N n.nodes.length d, .int .i64 lo, .slice K keep.length ck, .slice V5.Th yb.there.length V5.ct, .slice none 0 0, .slice V5.C yb.code.length V5.cc] from rfl]
      unfold set7 at hX9
      have HX9 := Lib.hid hX9
      clear hX9
      clear hA9 ho9 hl9 hz HC1
      go_upto_region 14 with fail
      clear d0 d1 d2 d3 d4 d5 d6 f0 f1 f2 f3 f4 f5 f6
      generalize (((((((w5.setCell ⟨g, 0, none⟩ (.slice A n.inn.length c)).setCell ⟨g, 1, none⟩ (.slice N n.nodes.length d)).setCell ⟨g, 2, none⟩ (.int .i64 lo)).setCell ⟨g, 3, none⟩ (.slice K keep.length ck)).setCell ⟨g, 4, none⟩ (.slice V5.Th yb.there.length V5.ct)).setCell ⟨g, 5, none⟩ (.slice none 0 0)).setCell ⟨g, 6, none⟩ (.slice V5.C yb.code.length V5.cc)) = w6 at *
      have HC2 := Lib.hid (ref21_drop ⟨A, N, K, c, d, ck⟩ V5 n lo keep yb w6 HX9.out.at_ (by omega) (by omega) lo)
      obtain ⟨y0, y1, y2, y3, y4, y5, y6⟩ := cells7 HX9.out.box
      have hbc : (Rt.dropD lo yb).code.length ≤ 202 ∧ (Rt.dropD lo yb).there.length ≤ 13 := by
        have h4 : (Rf.without yb.there lo).length ≤ yb.there.length := List.length_filter_le _ _
        unfold Rt.dropD; simp; omega
      have HX5 := HX9
      clear HX9
      go_wp2_with fail
      clear y0 y1 y2 y3 y4 y5 y6
      refine HC2.out.mono ?_
      rintro e w7 ⟨V7, rfl, hA9, ho9, hl9⟩
      have hX9 := HX5.out.put hl9 hA9 ho9
      obtain ⟨d0, d1, d2, d3, d4, d5, d6⟩ := cells7 (hl9.blk HX5.out.box)
      obtain ⟨f0, f1, f2, f3, f4, f5, f6⟩ := frozen7 (hl9.blk HX5.out.box)
      generalize hz : Rt.dropD lo yb = yc at *
      have Hyc := Lib.hid hz
      rw [show RsF.cells ⟨A, N, K, c, d, ck⟩ V7 n lo keep yc = #[.slice A n.inn.length c, .slice N n.nodes.length d, .int .i64 lo, .slice K keep.length ck, .slice V7.Th yc.there.length V7.ct, .slice none 0 0, .slice V7.C yc.code.length V7.cc] from rfl]
      unfold set7 at hX9
      have HX9 := Lib.hid hX9
      clear hX9
      clear hA9 ho9 hl9 hz HC2
      go_upto_region 15 with fail
      clear d0 d1 d2 d3 d4 d5 d6 f0 f1 f2 f3 f4 f5 f6
      generalize (((((((w7.setCell ⟨g, 0, none⟩ (.slice A n.inn.length c)).setCell ⟨g, 1, none⟩ (.slice N n.nodes.length d)).setCell ⟨g, 2, none⟩ (.int .i64 lo)).setCell ⟨g, 3, none⟩ (.slice K keep.length ck)).setCell ⟨g, 4, none⟩ (.slice V7.Th yc.there.length V7.ct)).setCell ⟨g, 5, none⟩ (.slice none 0 0)).setCell ⟨g, 6, none⟩ (.slice V7.C yc.code.length V7.cc)) = w8 at *
      have HC3 := Lib.hid (ref21_do ⟨A, N, K, c, d, ck⟩ V7 n lo keep yc w8 HX9.out.at_ (by omega) 5 0)
      obtain ⟨y0, y1, y2, y3, y4, y5, y6⟩ := cells7 HX9.out.box
      have HX7 := HX9
      clear HX9
      go_wp2_with fail
      clear y0 y1 y2 y3 y4 y5 y6
      refine HC3.out.mono ?_
      rintro e w9 ⟨V9, rfl, hA9, ho9, hl9⟩
      have hX9 := HX7.out.put hl9 hA9 ho9
      obtain ⟨d0, d1, d2, d3, d4, d5, d6⟩ := cells7 (hl9.blk HX7.out.box)
      obtain ⟨f0, f1, f2, f3, f4, f5, f6⟩ := frozen7 (hl9.blk HX7.out.box)
      generalize hz : Rt.addD 5 0 yc = yd at *
      have Hyd := Lib.hid hz
      rw [show RsF.cells ⟨A, N, K, c, d, ck⟩ V9 n lo keep yd = #[.slice A n.inn.length c, .slice N n.nodes.length d, .int .i64 lo, .slice K keep.length ck, .slice V9.Th yd.there.length V9.ct, .slice none 0 0, .slice V9.C yd.code.length V9.cc] from rfl]
      unfold set7 at hX9
      have HX9 := Lib.hid hX9
      clear hX9
      clear hA9 ho9 hl9 hz HC3
      go_upto_region 16 with fail
      clear d0 d1 d2 d3 d4 d5 d6 f0 f1 f2 f3 f4 f5 f6
      generalize (((((((w9.setCell ⟨g, 0, none⟩ (.slice A n.inn.length c)).setCell ⟨g, 1, none⟩ (.slice N n.nodes.length d)).setCell ⟨g, 2, none⟩ (.int .i64 lo)).setCell ⟨g, 3, none⟩ (.slice K keep.length ck)).setCell ⟨g, 4, none⟩ (.slice V9.Th yd.there.length V9.ct)).setCell ⟨g, 5, none⟩ (.slice none 0 0)).setCell ⟨g, 6, none⟩ (.slice V9.C yd.code.length V9.cc)) = w10 at *
      have HXB : Hid (RsX g ⟨A, N, K, c, d, ck⟩ n lo keep V9 (Rt.bwdDN n keep 0) w3 w10) := Lib.hid (by
        rw [show Rt.bwdDN n keep 0 = Rt.midDN n keep from rfl, HMe.out]
        exact HX9.out)
      have HKF := HK
      clear HX9 HX7 HX5 HXk HMe Hyb Hyc Hyd hbN hbM hbb hbc HB1 HB3 HS1 HG
      have n1 : IntKind.i64.wrap ((n.nodes.length : Int) - 1) = (n.nodes.length : Int) - 1 := IntWalk.i64_in _ (by omega)
      go_wp2_with fail
      clear n1
      obtain ⟨wq, rfl⟩ : ∃ wq, wq = wr := ⟨wr, rfl⟩
      go_loopw [12] (fun t wx => ∃ (k : Nat) (z : Int) (V : RsV), k ≤ n.nodes.length ∧ z = (n.nodes.length : Int) - 1 - (k : Int) ∧ t = .int .i64 z ∧ RsX g ⟨A, N, K, c, d, ck⟩ n lo keep V (Rt.bwdDN n keep k) w3 wx) (fun t _ => (intOf t + 1).toNat)
      case atStart => exact ⟨0, _, _, Nat.zero_le _, by omega, rfl, HXB.out⟩
      case round =>
        obtain ⟨k, z, V, hk, hz, rfl, hXk⟩ := hrel
        clear HXB
        by_cases hlt : k < n.nodes.length
        · obtain ⟨p, hp⟩ : ∃ p : Nat, z = (p : Int) := ⟨z.toNat, by omega⟩
          have hpl : p < n.nodes.length := by omega
          have hpk : n.nodes.length - 1 - k = p := by omega
          have HPK := Lib.hid hpk
          have HPK2 := Lib.hid (show os.length - 1 - k = p by rw [HOL.out]; exact hpk)
          have HPK3 := Lib.hid (show os.length - k = p + 1 by rw [HOL.out]; omega)
          subst hp
          have HZ := Lib.hid hz
          have hst := HS2.out k
          have hfo := fun j => HB4.out k hlt j
          rw [HPK2.out, HPK3.out] at hst
          rw [HPK2.out] at hfo
          obtain ⟨b2, off2, hOe, -, hc⟩ := HO3.out.below hXk.later (Nat.le_refl _) p (by rw [HOL.out]; exact hpl)
          have hur := Hrng.out (os.getD p 0) (by rw [getD_at (show p < os.length by rw [HOL.out]; exact hpl)]; exact List.getElem_mem _)
          obtain ⟨j, hj⟩ : ∃ j : Nat, os.getD p 0 = (j : Int) + 1 := ⟨(os.getD p 0 - 1).toNat, by omega⟩
          have hjl : j < n.nodes.length := by omega
          rw [hj] at hst hfo hc
          have hiF : Nt.insF n.nodes ((j : Int) + 1) = n.nodes[j].ins := by unfold Nt.insF; rw [Nt.node_at hjl]
          rw [hiF] at hst hfo
          obtain ⟨b1, off1, J, jc, hNe, y8, hJ⟩ := (HR.out.below Hlw3.out (Nat.le_refl _)).ins_at hjl
          have hil := (Hok.out.2.2 _ (List.getElem_mem hjl)).2.2.1
          have hirng := Rt.ins_rng Hck.out hjl
          have htk := fun q (h : q < n.nodes[j].ins.length) => Rt.foldD_take (I := Nt.insF n.nodes) (m := n.nodes.length + 1) h (Rt.bwdDN n keep k)
          have x8 := hXk.later.cell y8
          have x1 := hXk.later.cell (Hk3.out.cell 1)
          simp at x1
          have hlast := hfo n.nodes[j].ins.length
          rw [List.take_length] at hlast
          generalize n.nodes[j].ins = il at *
          generalize Rt.bwdDN n keep k = s at *
          rw [hNe] at x1
          have j1 : IntKind.i64.wrap ((j : Int) + 1 - 1) = (j : Int) := by rw [IntWalk.i64_in _ (by omega)]; omega
          have j3 : (0 : Int) ≤ (j : Int) := by omega
          have j4 : (j : Int) < n.nodes.length := by omega
          have p0 : (0 : Int) ≤ (p : Int) := by omega
          have p1 : (p : Int) < n.nodes.length := by omega
          subst hOe
          have HXd := Lib.hid (fun q => hXk.to_later (Later.drewN (Later.refl wr) q))
          have HJ0 := Lib.hid (show os.getD p 0 = (j : Int) + 1 from hj)
          have Hst := Lib.hid hst
          have Hfo := Lib.hid hfo
          have Hirng := Lib.hid hirng
          have Htk := Lib.hid htk
          have HJ := Lib.hid hJ
          have Hlast := Lib.hid hlast
          clear hst hfo hirng htk hJ hlast
          clear hXk hz hpk hj hiF hNe y8 hur
          go_wp2_with fail
          go_quiet (fail)
          clear hc x8 x1 j1
          have HXe := Lib.hid (HXd.out nq)
          generalize wr.drewN nq = wd at *
          clear HXd
          go_wp2_with fail
          obtain ⟨wo, rfl⟩ : ∃ wo, wo = wr := ⟨wr, rfl⟩
          go_loopw [14] (fun t wx => ∃ (q : Nat) (V : RsV), q ≤ il.length ∧ t = .int .i64 (q : Int) ∧ RsX g ⟨A, N, K, c, d, ck⟩ n lo keep V ((il.take q).foldl (fun x i => Rt.fetchD (Nt.insF n.nodes) (n.nodes.length + 1) i x) s) w3 wx) (fun t _ => il.length - (intOf t).toNat)
          case atStart => exact ⟨0, V, Nat.zero_le _, rfl, HXe.out⟩
          case round =>
            clear HXe
            obtain ⟨q, V2, hq, rfl, hXq⟩ := hrel
            have hbk := Hfo.out q
            obtain ⟨y0, y1, y2, y3, y4, y5, y6⟩ := cells7 hXq.box
            by_cases hql : q < il.length
            · skip
              obtain ⟨b3, off3, hJe, -, hc⟩ := HJ.out.below hXq.later (Nat.le_refl _) q hql
              rw [getD_at hql] at hc
              have hr := Hirng.out _ (List.getElem_mem hql)
              obtain ⟨u, hu⟩ := Int.eq_ofNat_of_zero_le hr.1
              have htk := Htk.out q hql
              have hbk1 := Hfo.out (q + 1)
              rw [htk] at hbk1
              have HTK := Lib.hid htk
              rw [hu] at hc hr hbk1 HTK
              generalize (il.take q).foldl (fun x i => Rt.fetchD (Nt.insF n.nodes) (n.nodes.length + 1) i x) s = y at *
              have hld : Later wr wr.drew := (Later.refl _).drew
              have hXd := hXq.to_later hld
              have HCall := Lib.hid (ref21_fetch ⟨A, N, K, c, d, ck⟩ n lo keep w3 Hok.out Hck.out (HR.out.below Hlw3.out (Nat.le_refl _)) (n.nodes.length + 1) u y V2 wr.drew hXd.later hXd.at_ (by omega) (by
                rcases Nat.eq_zero_or_pos u with h0 | h0
                · exact .inl h0
                · exact .inr (HRK.out u h0 (by omega))) (by omega) (by omega))
              have k0 : (q : Int) < il.length := by omega
              subst hJe
              have HXd := Lib.hid hXd
              clear hXd
              clear htk hu hXq hld hbk1 hbk
              go_upto_region 23 with fail
              go_still_tail 5, (by kernel_rfl)
              change wpList _ _ _ _ _ wr.drew
              clear y0 y1 y2 y3 y4 y5 y6 hc
              generalize wr.drew = wd at *
              go_wp2_with fail
              refine HCall.out.mono ?_
              rintro e w5 ⟨V3, rfl, hA3, ho3, hl3⟩
              have hX5 := HXd.out.put hl3 hA3 ho3
              obtain ⟨d0, d1, d2, d3, d4, d5, d6⟩ := cells7 (hl3.blk HXd.out.box)
              obtain ⟨f0, f1, f2, f3, f4, f5, f6⟩ := frozen7 (hl3.blk HXd.out.box)
              rw [← HTK.out] at hX5
              rw [← HTK.out]
              generalize hy3 : (il.take (q + 1)).foldl (fun x i => Rt.fetchD (Nt.insF n.nodes) (n.nodes.length + 1) i x) s = x3 at *
              rw [show RsF.cells ⟨A, N, K, c, d, ck⟩ V3 n lo keep x3 = #[.slice A n.inn.length c, .slice N n.nodes.length d, .int .i64 lo, .slice K keep.length ck, .slice V3.Th x3.there.length V3.ct, .slice none 0 0, .slice V3.C x3.code.length V3.cc] from rfl]
              unfold set7 at hX5
              have HX5 := Lib.hid hX5
              have Hy3 := Lib.hid hy3
              clear hX5 hy3
              clear hA3 ho3 hl3 HTK HCall
              go_wp2_with fail
              go_roundw
              case rel => exact ⟨q + 1, V3, by omega, by go_num, by rw [Hy3.out]; exact HX5.out⟩
              case measure => simp [intOf]; omega
            · obtain rfl : q = il.length := by omega
              rw [List.take_length] at hXq hbk y4 y6
              have hst := Hst.out
              have hla := Hlast.out
              generalize il.foldl (fun x i => Rt.fetchD (Nt.insF n.nodes) (n.nodes.length + 1) i x) s = y at *
              obtain ⟨b3, off3, hOe, -, hc⟩ := HO3.out.below hXq.later (Nat.le_refl _) p (by rw [HOL.out]; exact hpl)
              injection hOe with hOe
              injection hOe with e1 e2 e3
              subst e1 e2
              rw [HJ0.out] at hc
              have hld : Later wr wr.drew := (Later.refl _).drew
              have hXd := hXq.to_later hld
              have HCall := Lib.hid (ref21_do ⟨A, N, K, c, d, ck⟩ V2 n lo keep y wr.drew hXd.at_ (by omega) 6 ((j : Int) + 1))
              have hx0c : (Rt.addD 6 ((j : Int) + 1) y).code.length = y.code.length + 1 := by unfold Rt.addD; simp
              have hx0t : (Rt.addD 6 ((j : Int) + 1) y).there.length = y.there.length := rfl
              have HXd := Lib.hid hXd
              clear hXd
              have HST := Lib.hid hst
              clear hst hXq hld e3 Hst
              go_upto_region 24 with fail
              go_still_tail 5, (by kernel_rfl)
              change wpList _ _ _ _ _ wr.drew
              clear y0 y1 y2 y3 y4 y5 y6 hc
              generalize wr.drew = wd at *
              go_wp2_with fail
              refine HCall.out.mono ?_
              rintro e w5 ⟨V3, rfl, hA3, ho3, hl3⟩
              have hX5 := HXd.out.put hl3 hA3 ho3
              obtain ⟨d0, d1, d2, d3, d4, d5, d6⟩ := cells7 (hl3.blk HXd.out.box)
              obtain ⟨f0, f1, f2, f3, f4, f5, f6⟩ := frozen7 (hl3.blk HXd.out.box)
              generalize Rt.addD 6 ((j : Int) + 1) y = x0 at *
              rw [show RsF.cells ⟨A, N, K, c, d, ck⟩ V3 n lo keep x0 = #[.slice A n.inn.length c, .slice N n.nodes.length d, .int .i64 lo, .slice K keep.length ck, .slice V3.Th x0.there.length V3.ct, .slice none 0 0, .slice V3.C x0.code.length V3.cc] from rfl]
              unfold set7 at hX5
              have hxc : x0.code.length ≤ 1001 := by omega
              have hxt : x0.there.length ≤ 13 := by omega
              have HX5 := Lib.hid hX5
              clear hX5
              clear hA3 ho3 hl3 HCall hx0c hx0t hbk hla
              go_upto_region 25 with fail
              clear d0 d1 d2 d3 d4 d5 d6 f0 f1 f2 f3 f4 f5 f6
              generalize (((((((w5.setCell ⟨g, 0, none⟩ (.slice A n.inn.length c)).setCell ⟨g, 1, none⟩ (.slice N n.nodes.length d)).setCell ⟨g, 2, none⟩ (.int .i64 lo)).setCell ⟨g, 3, none⟩ (.slice K keep.length ck)).setCell ⟨g, 4, none⟩ (.slice V3.Th x0.there.length V3.ct)).setCell ⟨g, 5, none⟩ (.slice none 0 0)).setCell ⟨g, 6, none⟩ (.slice V3.C x0.code.length V3.cc)) = w6 at *
              go_wp2_with fail
              obtain ⟨wv, rfl⟩ : ∃ wv, wv = wr := ⟨wr, rfl⟩
              go_loopw [15] (fun t wx => ∃ (m : Nat) (V : RsV), m ≤ n.nodes.length ∧ t = .int .i64 ((m : Int) + 1) ∧ RsX g ⟨A, N, K, c, d, ck⟩ n lo keep V (Rt.sweepD (Rt.dT n keep (p + 1)) m x0) w3 wx) (fun t _ => n.nodes.length + 1 - (intOf t).toNat)
              case atStart => exact ⟨0, V3, Nat.zero_le _, rfl, HX5.out⟩
              case round =>
                clear HX5
                obtain ⟨m, V4, hm, rfl, hX4⟩ := hrel
                have hsb := Rt.sweepD_bd (g := Rt.dT n keep (p + 1)) m x0
                have hss := Rt.sweepD_step (Rt.dT n keep (p + 1)) m x0
                rw [HD.out] at hss
                rw [show p + 1 - 1 = p from rfl] at hss
                by_cases hml : m < n.nodes.length
                · generalize Rt.sweepD (Rt.dT n keep (p + 1)) m x0 = y at *
                  have HA1 := Lib.hid (fun q => ref18_has V4.Th V4.ct y.there ((m : Int) + 1) (wr.drewN q) (by omega) (hX4.at_.there.drewN q))
                  have HA2 := Lib.hid (fun q => ref18_has K ck keep ((m : Int) + 1) (wr.drewN q) (by omega) ((HK.out.below (Hlw3.out.trans hX4.later) (Nat.le_refl _)).drewN q))
                  obtain ⟨-, -, -, -, y4, -, -⟩ := cells7 hX4.box
                  have m0 : (m : Int) + 1 ≤ n.nodes.length := by omega
                  have hl2 := Lib.hid (fun q => hX4.to_later (Later.drewN (Later.refl wr) q))
                  cases h1 : hasB y.there ((m : Int) + 1)
                  · have HE := Lib.hid (show Rt.sweepD (Rt.dT n keep (p + 1)) (m + 1) x0 = y by rw [hss, show y.there.contains ((m : Int) + 1) = false from h1]; simp)
                    rw [h1] at HA1
                    clear hss h1 hsb hX4 HA2
                    go_wp2_with fail
                    go_quiet ((go_at_call 24; exact quiet_same (HA1.out _)))
                    go_wp2_with fail
                    go_roundw
                    case rel => exact ⟨m + 1, V4, by omega, by go_num, by rw [HE.out]; exact hl2.out _⟩
                    case measure => simp [intOf]; omega
                  rw [h1] at HA1
                  cases h2 : hasB keep ((m : Int) + 1)
                  · have HE2 := Lib.hid (show Rt.sweepD (Rt.dT n keep (p + 1)) (m + 1) x0 = Rt.dropD ((m : Int) + 1) y by rw [hss, show y.there.contains ((m : Int) + 1) = true from h1, h2]; simp)
                    rw [h2] at HA2
                    clear hss h1 h2 hX4
                    go_wp2_with fail
                    go_quiet ((go_at_call 24; first | (with_reducible exact quiet_same (HA1.out _)) | (with_reducible exact quiet_same (HA2.out _))))
                    have HX7 := Lib.hid (hl2.out nq)
                    clear HA1 HA2 hl2 y4
                    generalize wr.drewN nq = w7 at *
                    have HDr := Lib.hid (ref21_drop ⟨A, N, K, c, d, ck⟩ V4 n lo keep y w7 HX7.out.at_ (by omega) (by omega) ((m : Int) + 1))
                    obtain ⟨y0, y1, y2, y3, y4, y5, y6⟩ := cells7 HX7.out.box
                    go_wp2_with fail
                    refine HDr.out.mono ?_
                    rintro e w8 ⟨V8, rfl, hA8, ho8, hl8⟩
                    have hX9 := HX7.out.put hl8 hA8 ho8
                    obtain ⟨d0, d1, d2, d3, d4, d5, d6⟩ := cells7 (hl8.blk HX7.out.box)
                    obtain ⟨f0, f1, f2, f3, f4, f5, f6⟩ := frozen7 (hl8.blk HX7.out.box)
                    generalize Rt.dropD ((m : Int) + 1) y = z at *
                    rw [show RsF.cells ⟨A, N, K, c, d, ck⟩ V8 n lo keep z = #[.slice A n.inn.length c, .slice N n.nodes.length d, .int .i64 lo, .slice K keep.length ck, .slice V8.Th z.there.length V8.ct, .slice none 0 0, .slice V8.C z.code.length V8.cc] from rfl]
                    unfold set7 at hX9
                    have HX9 := Lib.hid hX9
                    clear hX9
                    clear hA8 ho8 hl8 HDr y0 y1 y2 y3 y4 y5 y6
                    go_wp2_with fail
                    go_roundw
                    case rel => exact ⟨m + 1, V8, by omega, by go_num, by rw [HE2.out]; exact HX9.out⟩
                    case measure => simp [intOf]; omega
                  rw [h2] at HA2
                  have hss2 : Rt.sweepD (Rt.dT n keep (p + 1)) (m + 1) x0 = if !Rt.pend (Nt.insF n.nodes) ((m : Int) + 1) (os.take p) then Rt.dropD ((m : Int) + 1) y else y := by
                    rw [hss, show y.there.contains ((m : Int) + 1) = true from h1, h2]; simp
                  have HP := Lib.hid (fun (W : World) (h : Later w3 W) (q : Nat) => (show Calls Tryz.prog 38 #[.agg #[.slice A n.inn.length c, .slice N n.nodes.length d], .int .i64 ((m : Int) + 1), .slice (some ⟨b2, off2, none⟩) p q] W fun e w' => e = .returned (.bool (Rt.pend (Nt.insF n.nodes) ((m : Int) + 1) (os.take p))) ∧ Later W w' from by
                    have hp := ref21_pending A N (some ⟨b2, off2, none⟩) c d q n ((m : Int) + 1) (os.take p) w3 W Hok.out (HR.out.below Hlw3.out (Nat.le_refl _)) (HO3.out.take p) h (by have := HOL.out; rw [List.length_take]; omega) (fun z hz => Hrng.out z (List.mem_of_mem_take hz))
                    rw [show (os.take p).length = p by rw [List.length_take, HOL.out]; omega] at hp
                    exact hp))
                  have sk1 : (p : Int) ≤ (n.nodes.length : Int) := by omega
                  have sk2 : (n.nodes.length : Int) ≤ (oc : Int) := by omega
                  have sk3 : (p : Int) ≤ (oc : Int) := by omega
                  have tk : ((p : Int)).toNat = p := by omega
                  have kk : p ≤ n.nodes.length := by omega
                  have kk2 : p ≤ oc := by omega
                  clear hss
                  cases hpd : Rt.pend (Nt.insF n.nodes) ((m : Int) + 1) (os.take p)
                  all_goals
                    rw [hpd] at HP hss2
                    have HE := Lib.hid hss2
                    have x0' := hX4.later.cell (Hk3.out.cell 0)
                    have x1' := hX4.later.cell (Hk3.out.cell 1)
                    simp at x0' x1'
                    have HKp := Lib.hid (fun (W : World) (h : Later wr W) => (⟨h.cell y4, h.cell x0', h.cell x1'⟩ : W.cell? ⟨g, 4, none⟩ = some (.slice V4.Th y.there.length V4.ct) ∧ W.cell? ⟨w.heap.size, 0, none⟩ = some (.slice A n.inn.length c) ∧ W.cell? ⟨w.heap.size, 1, none⟩ = some (.slice N n.nodes.length d)))
                    have HA3 := Lib.hid (fun (W : World) (h : Later wr W) => ref18_has V4.Th V4.ct y.there ((m : Int) + 1) W (by omega) (hX4.at_.there.below h (Nat.le_refl _)))
                    have HA4 := Lib.hid (fun (W : World) (h : Later wr W) => ref18_has K ck keep ((m : Int) + 1) W (by omega) (HK.out.below (Hlw3.out.trans (hX4.later.trans h)) (Nat.le_refl _)))
                    rw [h1] at HA3
                    rw [h2] at HA4
                    have HL3 := Lib.hid hX4.later
                    have HX4 := Lib.hid hX4
                    clear hX4
                    clear hss2 hpd HA1 HA2 h1 h2
                    go_wp2_with fail
                    go_region_held3 (fun W => W.cell? ⟨g, 4, none⟩ = some (.slice V4.Th y.there.length V4.ct) ∧ W.cell? ⟨w.heap.size, 0, none⟩ = some (.slice A n.inn.length c) ∧ W.cell? ⟨w.heap.size, 1, none⟩ = some (.slice N n.nodes.length d)) (first | exact HKp.out _ (show Later wr _ by repeat (first | (with_reducible exact Later.refl _) | (with_reducible apply Later.drew) | (with_reducible refine Later.trans ?_ (by assumption)))) | fail)
                      (first
                      | (go_at_call 24; (first | (with_reducible refine (HA3.out _ (show Later wr _ by repeat (first | (with_reducible exact Later.refl _) | (with_reducible apply Later.drew)))).mono ?_) | (with_reducible refine (HA4.out _ (show Later wr _ by repeat (first | (with_reducible exact Later.refl _) | (with_reducible apply Later.drew)))).mono ?_)); rintro e w' ⟨rfl, rfl⟩)
                      | (go_at_call 38; refine (HP.out _ (show Later w3 _ by repeat (first | (with_reducible exact HL3.out) | (with_reducible apply Later.drew))) _).mono ?_; rintro e w7 ⟨rfl, hl7⟩)
                      | fail)
                  · have HX7 := Lib.hid (HX4.out.to_later (show Later wr w7 by repeat (first | (with_reducible exact Later.refl _) | (with_reducible apply Later.drew) | (with_reducible refine Later.trans ?_ (by assumption)))))
                    have HE2 := Lib.hid (HE.out.trans (if_pos rfl))
                    clear HX4 HL3 HKp HA3 HA4 HP y4 x0' x1' hl7 HE
                    have HDr := Lib.hid (ref21_drop ⟨A, N, K, c, d, ck⟩ V4 n lo keep y w7 HX7.out.at_ (by omega) (by omega) ((m : Int) + 1))
                    obtain ⟨y0, y1, y2, y3, y4, y5, y6⟩ := cells7 HX7.out.box
                    go_wp2_with fail
                    refine HDr.out.mono ?_
                    rintro e w8 ⟨V8, rfl, hA8, ho8, hl8⟩
                    have hX9 := HX7.out.put hl8 hA8 ho8
                    obtain ⟨d0, d1, d2, d3, d4, d5, d6⟩ := cells7 (hl8.blk HX7.out.box)
                    obtain ⟨f0, f1, f2, f3, f4, f5, f6⟩ := frozen7 (hl8.blk HX7.out.box)
                    generalize Rt.dropD ((m : Int) + 1) y = z at *
                    rw [show RsF.cells ⟨A, N, K, c, d, ck⟩ V8 n lo keep z = #[.slice A n.inn.length c, .slice N n.nodes.length d, .int .i64 lo, .slice K keep.length ck, .slice V8.Th z.there.length V8.ct, .slice none 0 0, .slice V8.C z.code.length V8.cc] from rfl]
                    unfold set7 at hX9
                    have HX9 := Lib.hid hX9
                    clear hX9
                    clear hA8 ho8 hl8 HDr y0 y1 y2 y3 y4 y5 y6
                    go_wp2_with fail
                    go_roundw
                    case rel => exact ⟨m + 1, V8, by omega, by go_num, by rw [HE2.out]; exact HX9.out⟩
                    case measure => simp [intOf]; omega
                  · have HX7 := Lib.hid (HX4.out.to_later (show Later wr w7 by repeat (first | (with_reducible exact Later.refl _) | (with_reducible apply Later.drew) | (with_reducible refine Later.trans ?_ (by assumption)))))
                    have HE2 := Lib.hid (HE.out.trans (if_neg (by simp)))
                    clear HX4 HL3 HKp HA3 HA4 HP y4 x0' x1' hl7 HE
                    go_wp2_with fail
                    go_roundw
                    case rel => exact ⟨m + 1, V4, by omega, by go_num, by rw [HE2.out]; exact HX7.out⟩
                    case measure => simp [intOf]; omega
                · obtain rfl : m = n.nodes.length := by omega
                  have hX5 := hX4
                  rw [← HST.out] at hX5
                  have q1 : IntKind.i64.wrap ((p : Int) - 1) = (p : Int) - 1 := IntWalk.i64_in _ (by omega)
                  have HX5 := Lib.hid hX5
                  clear hX5
                  clear hX4 hss hsb
                  go_wp2_with fail
                  clear q1
                  go_roundw
                  case rel => exact ⟨k + 1, (p : Int) - 1, V4, by omega, by have := HZ.out; omega, rfl, HX5.out⟩
                  case measure => first | (simp [intOf]; done) | (simp [intOf]; omega)
        · obtain rfl : k = n.nodes.length := by omega
          obtain rfl : z = -1 := by omega
          obtain ⟨-, -, -, -, -, -, y6⟩ := cells7 hXk.box
          have HL := Lib.hid (Hlw3.out.trans hXk.later)
          have HP := Lib.hid hXk.at_.code
          have HLe := Lib.hid (Hle.out.trans (by rw [HOL.out]))
          clear hz hXk
          go_wp2_with fail
          go_ret
          rw [HLe.out]
          exact ⟨V.C, V.cc, rfl, HP.out, HL.out⟩
end Go.Proofs.YtnffjfjhbjeaiaaGreatDoor
/- A net of bounded bulk, come in as an argument, opened. -/
namespace Go.Proofs.YtnffjfjhbjeaiaaGreatDoor
open Go.ChangeShapes Go.WideShapes Go.Deep Go.RowKit

section
variable {H : Type} {enc : TypeId × Value → H} {P : Program} {W : World} {base : Nat} {spare : Nat → Bool} {held : Bool}
theorem bulk_one (d : DataW H) : 1 ≤ Rows.uptoBulk d := by
  cases d with
  | lit l => cases l <;> simp [Rows.uptoBulk]
  | nil => simp [Rows.uptoBulk]
  | ptr d => simp [Rows.uptoBulk]
  | slice elems spare => simp [Rows.uptoBulk]
  | agg parts => simp [Rows.uptoBulk]
  | iface t d => simp [Rows.uptoBulk]
  | map entries => simp [Rows.uptoBulk]
  | held h => simp [Rows.uptoBulk]
theorem bulk_part {d : DataW H} {l : List (DataW H)} (h : d ∈ l) : Rows.uptoBulk d ≤ Rows.uptoBulkAll l := by
  induction l with
  | nil => cases h
  | cons x r ih =>
    simp only [Rows.uptoBulkAll]
    cases List.mem_cons.1 h with
    | inl e => subst e; omega
    | inr e => have := ih e; omega
theorem bulk_len (l : List (DataW H)) : l.length ≤ Rows.uptoBulkAll l := by
  induction l with
  | nil => simp [Rows.uptoBulkAll]
  | cons x r ih => have := bulk_one x; simp only [Rows.uptoBulkAll, List.length_cons]; omega
/-- The elements of a slice, and their bulk. -/
theorem slice_bulk {t e : TypeId} {fuel : Nat} {v : Value} {x : DataW H × List MemPlace} (ht : P.underlying t = some (.slice e)) (h : DataW.trod enc P W base spare held fuel t [v] = some x) (hz : Rows.uptoBulk x.1 ≤ 1048576) :
    v = .slice none 0 0 ∨ ∃ a len cap, v = .slice (some a) len cap ∧ len ≤ cap ∧ cap ≤ maxLen ∧ len ≤ 1048576 ∧
      ∀ i, i < len → ∃ cs' m y, W.cells? base (a.add (i * P.cellsOf e)) (P.cellsOf e) = some cs' ∧ DataW.trod enc P W base spare held m e cs' = some y ∧ Rows.uptoBulk y.1 ≤ 1048576 := by
  rcases open_slice ht h with ⟨hcs, _⟩ | ⟨a, len, cap, m, n, D, Pl, hcs, _, hl, hm, hmm, hx, hi⟩
  · simp at hcs; exact .inl hcs
  · simp at hcs; subst hcs
    right
    have hlm : len ≤ m := by rw [hmm]; split <;> omega
    rw [hx] at hz
    simp only [Rows.uptoBulk] at hz
    refine ⟨a, len, cap, rfl, hl, hm, ?_, fun i hil => ?_⟩
    · have := bulk_len ((List.range len).map D)
      simp at this
      omega
    · obtain ⟨cs', h1, h2⟩ := hi i (by omega)
      refine ⟨cs', n, _, h1, h2, ?_⟩
      have := bulk_part (d := D i) (l := (List.range len).map D) (List.mem_map.2 ⟨i, by simpa using hil, rfl⟩)
      show Rows.uptoBulk (D i) ≤ _
      omega
end

theorem int_one' : Tryz.prog.cellsOf 3 = 1 := by kernel_rfl
theorem shp_one : Tryz.prog.cellsOf 23 = 1 := by kernel_rfl
theorem node_cells : Tryz.prog.cellsOf 67 = 10 := by kernel_rfl

/-- A slice of numbers, of whatever name, with its size. -/
theorem nums_open {H : Type} {enc : TypeId × Value → H} {W : World} {base : Nat} {spare : Nat → Bool} {held : Bool} {t : TypeId} {fuel : Nat} {v : Value} {x : DataW H × List MemPlace} (ht : Tryz.prog.underlying t = some (.slice 3))
    (h : DataW.trod enc Tryz.prog W base spare held fuel t [v] = some x) (hz : Rows.uptoBulk x.1 ≤ 1048576) :
    ∃ A c zs, v = .slice A zs.length c ∧ Ints .i64 W A zs ∧ zs.length ≤ c ∧ c ≤ 9223372036854775807 ∧ zs.length ≤ 1048576 ∧ ∀ z ∈ zs, -9223372036854775808 ≤ z ∧ z ≤ 9223372036854775807 := by
  obtain ⟨A, c, zs, rfl, hl, hc, hI, hw⟩ := ints_open ht Tryz.underlying3 int_one' h
  refine ⟨A, c, zs, rfl, hI, hc, ?_, ?_, fun z hz => wf_bd (hw z hz)⟩
  · rcases slice_bulk ht h hz with e | ⟨a, len, cap, e, _, hm, _⟩
    · injection e with _ _ e; omega
    · injection e with _ _ e; unfold maxLen at hm; omega
  · rcases slice_bulk ht h hz with e | ⟨a, len, cap, e, _, _, hb, _⟩
    · injection e with _ e _; rw [e]; exact Nat.zero_le _
    · have e2 : zs.length = len := by simp at e; exact e.2.1
      rw [e2]
      exact hb
theorem one_list {l : List Value} (h : l.length = 1) : ∃ v, l = [v] := by
  match l, h with
  | [v], _ => exact ⟨v, rfl⟩
theorem choose_list {α : Type} [Inhabited α] {n : Nat} {Q : Nat → α → Prop} (h : ∀ i, i < n → ∃ a, Q i a) : ∃ l : List α, l.length = n ∧ ∀ i (hi : i < l.length), Q i l[i] := by
  obtain ⟨f, hf⟩ := @choose_lt α _ _ _ h
  exact ⟨(List.range n).map f, by simp, fun i hi => by simp at hi; simpa using hf i hi⟩
theorem addr_lit {W : World} {a : Addr} {v : Value} (h : W.cell? a = some v) : ∃ b off, a = ⟨b, off, none⟩ := by
  obtain ⟨b, off, spot⟩ := a
  have hs : spot = none := by simpa using World.cell?_spot h
  subst hs
  exact ⟨b, off, rfl⟩
/-- A slice of shapes. -/
theorem shps_open {H : Type} {enc : TypeId × Value → H} {W : World} {base : Nat} {spare : Nat → Bool} {held : Bool} {fuel : Nat} {v : Value} {x : DataW H × List MemPlace}
    (h : DataW.trod enc Tryz.prog W base spare held fuel 65 [v] = some x) (hz : Rows.uptoBulk x.1 ≤ 1048576) :
    ∃ A c ss, v = .slice A ss.length c ∧ Shps W A ss ∧ ss.length ≤ c ∧ c ≤ 9223372036854775807 ∧ ss.length ≤ 1048576 ∧ ∀ s ∈ ss, s.length ≤ 1048576 ∧ ∀ z ∈ s, -9223372036854775808 ≤ z ∧ z ≤ 9223372036854775807 := by
  rcases slice_bulk Tryz.underlying65 h hz with rfl | ⟨a, len, cap, rfl, hl, hm, hb, hi⟩
  · exact ⟨none, 0, [], rfl, Shps.nil, by simp, by omega, by simp, by simp⟩
  · rw [shp_one] at hi
    have key : ∀ i, i < len → ∃ q : (List Int) × (Option Addr) × Nat, W.cell? (a.add i) = some (.slice q.2.1 q.1.length q.2.2) ∧ Ints .i64 W q.2.1 q.1 ∧ q.1.length ≤ q.2.2 ∧ q.2.2 ≤ 9223372036854775807 ∧ q.1.length ≤ 1048576 ∧ ∀ z ∈ q.1, -9223372036854775808 ≤ z ∧ z ≤ 9223372036854775807 := fun i hil => by
      obtain ⟨cs', m, y, hc, ht, hw⟩ := hi i hil
      obtain ⟨_, hlen, hat⟩ := World.cells?_some hc
      obtain ⟨v, rfl⟩ := one_list hlen
      obtain ⟨A, c, zs, rfl, h1, h2⟩ := nums_open Tryz.underlying23 ht hw
      refine ⟨(zs, A, c), ?_, h1, h2⟩
      have := hat 0 (by omega)
      rw [Nat.mul_one] at this
      simpa [Addr.add] using this
    obtain ⟨L, hL, hq⟩ := choose_list key
    refine ⟨some a, cap, L.map (·.1), by simp [hL], fun j hj => ?_, by simpa [hL] using hl, by unfold maxLen at hm; omega, by simp [hL]; exact hb, fun s hs => ?_⟩
    · rw [List.length_map] at hj
      obtain ⟨h1, h2, h3, h4, _⟩ := hq j hj
      obtain ⟨h0, _⟩ := hq 0 (by omega)
      obtain ⟨b, off, rfl⟩ := addr_lit (show W.cell? a = _ by simpa [Addr.add] using h0)
      rw [add_plain'] at h1
      rw [List.getElem_map]
      exact ⟨b, off, _, _, rfl, World.block_lt_of_cell? _ _ h1, h1, h2, h3, h4⟩
    · obtain ⟨q, hqm, rfl⟩ := List.mem_map.1 hs
      obtain ⟨i, hi, rfl⟩ := List.getElem_of_mem hqm
      exact (hq i hi).2.2.2.2

def OpD.inR (o : OpD) : Prop := o.wide ∧ ∀ z ∈ o.s, -9223372036854775808 ≤ z ∧ z ≤ 9223372036854775807
/-- All numbers are an int's, and all rows could be in memory. -/
def NodeD.fits (v : NodeD) : Prop := v.op.wide ∧ v.op.s.length ≤ 1048576 ∧ v.ins.length ≤ 1048576 ∧ v.p.length ≤ 1048576 ∧ (∀ s ∈ v.p, s.length ≤ 1048576) ∧
  (∀ z ∈ v.op.s, -9223372036854775808 ≤ z ∧ z ≤ 9223372036854775807) ∧ (∀ z ∈ v.ins, -9223372036854775808 ≤ z ∧ z ≤ 9223372036854775807) ∧ ∀ s ∈ v.p, ∀ z ∈ s, -9223372036854775808 ≤ z ∧ z ≤ 9223372036854775807
def NetD.fits (n : NetD) : Prop := n.inn.length ≤ 1048576 ∧ n.nodes.length ≤ 1048576 ∧ (∀ z ∈ n.inn, -9223372036854775808 ≤ z ∧ z ≤ 9223372036854775807) ∧ ∀ v ∈ n.nodes, v.fits

theorem node_under : Tryz.prog.underlying 67 = some (.struct (Tryz.prog.fieldsOf 67)) := by kernel_rfl
theorem node_three : (Tryz.prog.fieldsOf 67).size = 3 := by kernel_rfl
theorem node_types : (Tryz.prog.fieldsOf 67).toList.map (·.type) = [64, 22, 65] := by kernel_rfl
theorem node_f0 : ((Tryz.prog.fieldsOf 67)[0]?).map (fun f => (f.type, f.offset, Tryz.prog.cellsOf f.type)) = some (64, 0, 8) := by kernel_rfl
theorem node_f1 : ((Tryz.prog.fieldsOf 67)[1]?).map (fun f => (f.type, f.offset, Tryz.prog.cellsOf f.type)) = some (22, 8, 1) := by kernel_rfl
theorem node_f2 : ((Tryz.prog.fieldsOf 67)[2]?).map (fun f => (f.type, f.offset, Tryz.prog.cellsOf f.type)) = some (65, 9, 1) := by kernel_rfl
theorem op_under : Tryz.prog.underlying 64 = some (.struct (Tryz.prog.fieldsOf 64)) := by kernel_rfl
theorem op_eight : (Tryz.prog.fieldsOf 64).size = 8 := by kernel_rfl
theorem op_types : (Tryz.prog.fieldsOf 64).toList.map (·.type) = [3, 62, 3, 3, 3, 3, 3, 23] := by kernel_rfl
theorem op_f0 : ((Tryz.prog.fieldsOf 64)[0]?).map (fun f => (f.type, f.offset, Tryz.prog.cellsOf f.type)) = some (3, 0, 1) := by kernel_rfl
theorem op_f1 : ((Tryz.prog.fieldsOf 64)[1]?).map (fun f => (f.type, f.offset, Tryz.prog.cellsOf f.type)) = some (62, 1, 1) := by kernel_rfl
theorem op_f2 : ((Tryz.prog.fieldsOf 64)[2]?).map (fun f => (f.type, f.offset, Tryz.prog.cellsOf f.type)) = some (3, 2, 1) := by kernel_rfl
theorem op_f3 : ((Tryz.prog.fieldsOf 64)[3]?).map (fun f => (f.type, f.offset, Tryz.prog.cellsOf f.type)) = some (3, 3, 1) := by kernel_rfl
theorem op_f4 : ((Tryz.prog.fieldsOf 64)[4]?).map (fun f => (f.type, f.offset, Tryz.prog.cellsOf f.type)) = some (3, 4, 1) := by kernel_rfl
theorem op_f5 : ((Tryz.prog.fieldsOf 64)[5]?).map (fun f => (f.type, f.offset, Tryz.prog.cellsOf f.type)) = some (3, 5, 1) := by kernel_rfl
theorem op_f6 : ((Tryz.prog.fieldsOf 64)[6]?).map (fun f => (f.type, f.offset, Tryz.prog.cellsOf f.type)) = some (3, 6, 1) := by kernel_rfl
theorem op_f7 : ((Tryz.prog.fieldsOf 64)[7]?).map (fun f => (f.type, f.offset, Tryz.prog.cellsOf f.type)) = some (23, 7, 1) := by kernel_rfl
theorem list3 {α : Type} {l : List α} (h : l.length = 3) : ∃ a b c, l = [a, b, c] := by
  match l, h with
  | [a, b, c], _ => exact ⟨a, b, c, rfl⟩
theorem list8 {α : Type} {l : List α} (h : l.length = 8) : ∃ a b c d e f g i, l = [a, b, c, d, e, f, g, i] := by
  match l, h with
  | [a, b, c, d, e, f, g, i], _ => exact ⟨a, b, c, d, e, f, g, i, rfl⟩
theorem list10 {α : Type} {l : List α} (h : l.length = 10) : ∃ a b c d e f g i j k, l = [a, b, c, d, e, f, g, i, j, k] := by
  match l, h with
  | [a, b, c, d, e, f, g, i, j, k], _ => exact ⟨a, b, c, d, e, f, g, i, j, k, rfl⟩
set_option maxRecDepth 100000 in
/-- An op's cells. -/
theorem op_open {H : Type} {enc : TypeId × Value → H} {W : World} {base : Nat} {spare : Nat → Bool} {held : Bool} {fuel : Nat} {v0 v1 v2 v3 v4 v5 v6 v7 : Value} {x : DataW H × List MemPlace}
    (h : DataW.trod enc Tryz.prog W base spare held fuel 64 [v0, v1, v2, v3, v4, v5, v6, v7] = some x) (hz : Rows.uptoBulk x.1 ≤ 1048576) :
    ∃ (o : OpD) (S : Option Addr) (c : Nat), v0 = .int .i64 o.kind ∧ v1 = .int .i64 o.k ∧ v2 = .int .i64 o.width ∧ v3 = .int .i64 o.step ∧ v4 = .int .i64 o.side ∧ v5 = .int .i64 o.frm ∧ v6 = .int .i64 o.to ∧ v7 = .slice S o.s.length c ∧
      Ints .i64 W S o.s ∧ o.s.length ≤ c ∧ c ≤ 9223372036854775807 ∧ o.s.length ≤ 1048576 ∧ o.wide ∧ ∀ z ∈ o.s, -9223372036854775808 ≤ z ∧ z ≤ 9223372036854775807 := by
  obtain ⟨ys, n, _, hx, _, hlen, hg⟩ := DataW.trod_struct op_under h
  rw [op_eight] at hlen
  obtain ⟨y0, y1, y2, y3, y4, y5, y6, y7, rfl⟩ := list8 hlen
  rw [hx] at hz
  obtain ⟨f0, e0, t0⟩ := Option.map_eq_some_iff.1 op_f0
  simp only [Prod.mk.injEq] at t0
  have h0 := hg 0 f0 e0
  rw [t0.2.2, t0.2.1, t0.1] at h0
  simp at h0
  obtain ⟨f1, e1, t1⟩ := Option.map_eq_some_iff.1 op_f1
  simp only [Prod.mk.injEq] at t1
  have h1 := hg 1 f1 e1
  rw [t1.2.2, t1.2.1, t1.1] at h1
  simp at h1
  obtain ⟨f2, e2, t2⟩ := Option.map_eq_some_iff.1 op_f2
  simp only [Prod.mk.injEq] at t2
  have h2 := hg 2 f2 e2
  rw [t2.2.2, t2.2.1, t2.1] at h2
  simp at h2
  obtain ⟨f3, e3, t3⟩ := Option.map_eq_some_iff.1 op_f3
  simp only [Prod.mk.injEq] at t3
  have h3 := hg 3 f3 e3
  rw [t3.2.2, t3.2.1, t3.1] at h3
  simp at h3
  obtain ⟨f4, e4, t4⟩ := Option.map_eq_some_iff.1 op_f4
  simp only [Prod.mk.injEq] at t4
  have h4 := hg 4 f4 e4
  rw [t4.2.2, t4.2.1, t4.1] at h4
  simp at h4
  obtain ⟨f5, e5, t5⟩ := Option.map_eq_some_iff.1 op_f5
  simp only [Prod.mk.injEq] at t5
  have h5 := hg 5 f5 e5
  rw [t5.2.2, t5.2.1, t5.1] at h5
  simp at h5
  obtain ⟨f6, e6, t6⟩ := Option.map_eq_some_iff.1 op_f6
  simp only [Prod.mk.injEq] at t6
  have h6 := hg 6 f6 e6
  rw [t6.2.2, t6.2.1, t6.1] at h6
  simp at h6
  obtain ⟨f7, e7, t7⟩ := Option.map_eq_some_iff.1 op_f7
  simp only [Prod.mk.injEq] at t7
  have h7 := hg 7 f7 e7
  rw [t7.2.2, t7.2.1, t7.1] at h7
  simp at h7
  have hz7 : Rows.uptoBulk y7.1 ≤ 1048576 := by simp [Rows.uptoBulk, Rows.uptoBulkAll] at hz; omega
  obtain ⟨x0, q0, _, w0⟩ := DataW.trod_int Tryz.underlying3 h0
  simp at q0
  subst q0
  obtain ⟨x1, q1, _, w1⟩ := DataW.trod_int Tryz.underlying62 h1
  simp at q1
  subst q1
  obtain ⟨x2, q2, _, w2⟩ := DataW.trod_int Tryz.underlying3 h2
  simp at q2
  subst q2
  obtain ⟨x3, q3, _, w3⟩ := DataW.trod_int Tryz.underlying3 h3
  simp at q3
  subst q3
  obtain ⟨x4, q4, _, w4⟩ := DataW.trod_int Tryz.underlying3 h4
  simp at q4
  subst q4
  obtain ⟨x5, q5, _, w5⟩ := DataW.trod_int Tryz.underlying3 h5
  simp at q5
  subst q5
  obtain ⟨x6, q6, _, w6⟩ := DataW.trod_int Tryz.underlying3 h6
  simp at q6
  subst q6
  obtain ⟨S, c, zs, rfl, hI, h1, h2, h3, h4⟩ := nums_open Tryz.underlying23 h7 hz7
  refine ⟨⟨x0, x1, x2, x3, x4, x5, x6, zs⟩, S, c, rfl, rfl, rfl, rfl, rfl, rfl, rfl, rfl, hI, h1, h2, h3, fun z hz => ?_, h4⟩
  simp at hz
  rcases hz with rfl | rfl | rfl | rfl | rfl | rfl | rfl
  · exact wf_bd w0
  · exact wf_bd w1
  · exact wf_bd w2
  · exact wf_bd w3
  · exact wf_bd w4
  · exact wf_bd w5
  · exact wf_bd w6

/-- What a node's cells read as. -/
structure NodeQ where
  v : NodeD
  S : Option Addr
  c : Nat
  I : Option Addr
  d : Nat
  Q : Option Addr
  q : Nat
instance : Inhabited NodeQ := ⟨⟨Nt.none_, none, 0, none, 0, none, 0⟩⟩
def NodeQ.cells (x : NodeQ) : List Value := [.int .i64 x.v.op.kind, .int .i64 x.v.op.k, .int .i64 x.v.op.width, .int .i64 x.v.op.step, .int .i64 x.v.op.side, .int .i64 x.v.op.frm, .int .i64 x.v.op.to, .slice x.S x.v.op.s.length x.c, .slice x.I x.v.ins.length x.d, .slice x.Q x.v.p.length x.q]
def NodeQ.R (x : NodeQ) (W : World) : Prop := (Ints .i64 W x.S x.v.op.s ∧ x.v.op.s.length ≤ x.c ∧ x.c ≤ 9223372036854775807) ∧ (Ints .i64 W x.I x.v.ins ∧ x.v.ins.length ≤ x.d ∧ x.d ≤ 9223372036854775807) ∧ (Shps W x.Q x.v.p ∧ x.v.p.length ≤ x.q ∧ x.q ≤ 9223372036854775807)
set_option maxRecDepth 100000 in
theorem node_open {H : Type} {enc : TypeId × Value → H} {W : World} {base : Nat} {spare : Nat → Bool} {held : Bool} {fuel : Nat} {cs : List Value} {x : DataW H × List MemPlace} (hcs : cs.length = 10)
    (h : DataW.trod enc Tryz.prog W base spare held fuel 67 cs = some x) (hz : Rows.uptoBulk x.1 ≤ 1048576) :
    ∃ q : NodeQ, cs = q.cells ∧ q.R W ∧ q.v.fits := by
  obtain ⟨v0, v1, v2, v3, v4, v5, v6, v7, v8, v9, rfl⟩ := list10 hcs
  obtain ⟨ys, n, _, hx, _, hlen, hg⟩ := DataW.trod_struct node_under h
  rw [node_three] at hlen
  obtain ⟨y0, y1, y2, rfl⟩ := list3 hlen
  rw [hx] at hz
  obtain ⟨f0, e0, t0⟩ := Option.map_eq_some_iff.1 node_f0
  simp only [Prod.mk.injEq] at t0
  have h0 := hg 0 f0 e0
  rw [t0.2.2, t0.2.1, t0.1] at h0
  simp at h0
  obtain ⟨f1, e1, t1⟩ := Option.map_eq_some_iff.1 node_f1
  simp only [Prod.mk.injEq] at t1
  have h1 := hg 1 f1 e1
  rw [t1.2.2, t1.2.1, t1.1] at h1
  simp at h1
  obtain ⟨f2, e2, t2⟩ := Option.map_eq_some_iff.1 node_f2
  simp only [Prod.mk.injEq] at t2
  have h2 := hg 2 f2 e2
  rw [t2.2.2, t2.2.1, t2.1] at h2
  simp at h2
  have hz0 : Rows.uptoBulk y0.1 ≤ 1048576 := by simp [Rows.uptoBulk, Rows.uptoBulkAll] at hz; omega
  have hz1 : Rows.uptoBulk y1.1 ≤ 1048576 := by simp [Rows.uptoBulk, Rows.uptoBulkAll] at hz; omega
  have hz2 : Rows.uptoBulk y2.1 ≤ 1048576 := by simp [Rows.uptoBulk, Rows.uptoBulkAll] at hz; omega
  obtain ⟨o, S, c, rfl, rfl, rfl, rfl, rfl, rfl, rfl, rfl, a1, a2, a3, a4, a5, a6⟩ := op_open h0 hz0
  obtain ⟨I, d, is, rfl, b1, b2, b3, b4, b5⟩ := nums_open Tryz.underlying22 h1 hz1
  obtain ⟨Q, q, ps, rfl, c1, c2, c3, c4, c5⟩ := shps_open h2 hz2
  exact ⟨⟨⟨o, is, ps⟩, S, c, I, d, Q, q⟩, rfl, ⟨⟨a1, a2, a3⟩, ⟨b1, b2, b3⟩, c1, c2, c3⟩, a5, a4, b4, c4, fun s hs => (c5 s hs).1, a6, b5, fun s hs => (c5 s hs).2⟩
/-- A slice of nodes. -/
theorem nodes_open {H : Type} {enc : TypeId × Value → H} {W : World} {base : Nat} {spare : Nat → Bool} {held : Bool} {fuel : Nat} {v : Value} {x : DataW H × List MemPlace}
    (h : DataW.trod enc Tryz.prog W base spare held fuel 24 [v] = some x) (hz : Rows.uptoBulk x.1 ≤ 1048576) :
    ∃ A c ns, v = .slice A ns.length c ∧ Nodes W A ns ∧ ns.length ≤ c ∧ c ≤ 9223372036854775807 ∧ ns.length ≤ 1048576 ∧ ∀ v ∈ ns, v.fits := by
  rcases slice_bulk Tryz.underlying24 h hz with rfl | ⟨a, len, cap, rfl, hl, hm, hb, hi⟩
  · exact ⟨none, 0, [], rfl, fun j hj => absurd hj (by simp), by simp, by omega, by simp, by simp⟩
  · rw [node_cells] at hi
    have key : ∀ i, i < len → ∃ q : NodeQ, (∀ j, j < 10 → W.cell? ((a.add (i * 10)).add j) = q.cells[j]?) ∧ q.R W ∧ q.v.fits := fun i hil => by
      obtain ⟨cs', m, y, hc, ht, hw⟩ := hi i hil
      obtain ⟨_, hlen, hat⟩ := World.cells?_some hc
      obtain ⟨q, rfl, h1, h2⟩ := node_open hlen ht hw
      exact ⟨q, hat, h1, h2⟩
    obtain ⟨L, hL, hq⟩ := choose_list key
    refine ⟨some a, cap, L.map (·.v), by simp [hL], fun j hj => ?_, by simpa [hL] using hl, by unfold maxLen at hm; omega, by simp [hL]; exact hb, fun s hs => ?_⟩
    · rw [List.length_map] at hj
      obtain ⟨h1, ⟨r1, r2, r3⟩, _⟩ := hq j hj
      obtain ⟨h0, _⟩ := hq 0 (by omega)
      have h00 := h0 0 (by omega)
      obtain ⟨b, off, rfl⟩ := addr_lit (v := .int .i64 L[0].v.op.kind) (show W.cell? a = _ by simpa [Addr.add, NodeQ.cells] using h00)
      simp only [add_plain'] at h1
      rw [List.getElem_map]
      refine ⟨b, off, _, _, _, _, _, _, rfl, World.block_lt_of_cell? _ _ (h1 0 (by omega)), h1 0 (by omega), h1 1 (by omega), h1 2 (by omega), h1 3 (by omega), h1 4 (by omega), h1 5 (by omega), h1 6 (by omega), h1 7 (by omega), h1 8 (by omega), h1 9 (by omega), r1, r2, r3⟩
    · obtain ⟨q, hqm, rfl⟩ := List.mem_map.1 hs
      obtain ⟨i, hi, rfl⟩ := List.getElem_of_mem hqm
      exact (hq i hi).2.2
theorem net_cells : Tryz.prog.cellsOf 26 = 2 := by kernel_rfl
theorem net_under : Tryz.prog.underlying 26 = some (.struct (Tryz.prog.fieldsOf 26)) := by kernel_rfl
theorem net_two : (Tryz.prog.fieldsOf 26).size = 2 := by kernel_rfl
theorem net_types : (Tryz.prog.fieldsOf 26).toList.map (·.type) = [23, 24] := by kernel_rfl
theorem net_f0 : ((Tryz.prog.fieldsOf 26)[0]?).map (fun f => (f.type, f.offset, Tryz.prog.cellsOf f.type)) = some (23, 0, 1) := by kernel_rfl
theorem net_f1 : ((Tryz.prog.fieldsOf 26)[1]?).map (fun f => (f.type, f.offset, Tryz.prog.cellsOf f.type)) = some (24, 1, 1) := by kernel_rfl
theorem list2 {α : Type} {l : List α} (h : l.length = 2) : ∃ a b, l = [a, b] := by
  match l, h with
  | [a, b], _ => exact ⟨a, b, rfl⟩
set_option maxRecDepth 100000 in
/-- A net. -/
theorem net_open {H : Type} {enc : TypeId × Value → H} {W : World} {r : Reach} {b0 base : Nat} {spare : Nat → Bool} {held : Bool} {v : Value} {d : DataW H} {p : List MemPlace}
    (hv : Value.okWide Tryz.prog W r b0 26 v) (h : DataW.Trod enc Tryz.prog W base spare held 26 v d p) (hz : Rows.uptoBulk d ≤ 1048576) :
    ∃ A N c1 c2 n, v = .agg #[.slice A n.inn.length c1, .slice N n.nodes.length c2] ∧ n.inn.length ≤ c1 ∧ c1 ≤ 9223372036854775807 ∧ n.nodes.length ≤ c2 ∧ c2 ≤ 9223372036854775807 ∧ NetR W A N n ∧ n.fits := by
  obtain ⟨cs, rfl, hsz⟩ := okWide_struct net_under hv
  obtain ⟨l⟩ := cs
  match l, hsz.trans net_cells with
  | [v0, v1], _ =>
    obtain ⟨fuel, hf⟩ := h
    obtain ⟨ys, n, _, hx, _, hlen, hg⟩ := DataW.trod_struct net_under hf
    rw [net_two] at hlen
    obtain ⟨y0, y1, rfl⟩ := list2 hlen
    simp only [Prod.mk.injEq, List.map_cons, List.map_nil] at hx
    obtain ⟨rfl, _⟩ := hx
    obtain ⟨f0, e0, t0⟩ := Option.map_eq_some_iff.1 net_f0
    simp only [Prod.mk.injEq] at t0
    have h0 := hg 0 f0 e0
    rw [t0.2.2, t0.2.1, t0.1] at h0
    simp [Value.cells] at h0
    obtain ⟨f1, e1, t1⟩ := Option.map_eq_some_iff.1 net_f1
    simp only [Prod.mk.injEq] at t1
    have h1 := hg 1 f1 e1
    rw [t1.2.2, t1.2.1, t1.1] at h1
    simp [Value.cells] at h1
    have hz0 : Rows.uptoBulk y0.1 ≤ 1048576 := by simp [Rows.uptoBulk, Rows.uptoBulkAll] at hz; omega
    have hz1 : Rows.uptoBulk y1.1 ≤ 1048576 := by simp [Rows.uptoBulk, Rows.uptoBulkAll] at hz; omega
    obtain ⟨A, c1, zs, rfl, a1, a2, a3, a4, a5⟩ := nums_open Tryz.underlying23 h0 hz0
    obtain ⟨N, c2, ns, rfl, b1, b2, b3, b4, b5⟩ := nodes_open h1 hz1
    exact ⟨A, N, c1, c2, ⟨zs, ns⟩, rfl, a2, a3, b2, b3, ⟨a1, b1⟩, a4, b4, a5, b5⟩
theorem NetD.fits.ok {n : NetD} (h : n.fits) : n.ok :=
  ⟨h.1, h.2.1, fun v hv => by
    obtain ⟨h1, h2, h3, h4, h5, h6, h7, h8⟩ := h.2.2.2 v hv
    exact ⟨h1, h2, h3, h4, h5, h7⟩⟩
end Go.Proofs.YtnffjfjhbjeaiaaGreatDoor
