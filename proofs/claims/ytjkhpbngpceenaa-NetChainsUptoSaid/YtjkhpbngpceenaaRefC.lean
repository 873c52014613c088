/- The reference of layer 11: Check: contract. -/
import Derived.Test.YtjkhpbngpceenaaRefO
import Derived.Test.YtjkhpbngpceenaaNetL
namespace Go.Proofs.Ytjkhpbngpceenaa
open Go.RowKit
def RefCheckP (n : NetD) (w : World) (e : Ending) (w' : World) : Prop :=
  Below w.heap.size w w' ∧ ((Nt.check n = 0 ∧ ∃ g, e = .returned (.tuple #[.slice (some ⟨g, 0, none⟩) (n.nodes.length + 1) (n.nodes.length + 1), .int .i64 (Nt.loss n.nodes), .int .i64 0]) ∧ w.heap.size ≤ g ∧ ShpRow w' g 22 (Nt.shapes n)) ∨
    (Nt.check n ≠ 0 ∧ e = .returned (.tuple #[.slice none 0 0, .int .i64 0, .int .i64 (Nt.check n)])))
theorem RefCheckP.err {n : NetD} {w w' : World} {k : Int} (h : Nt.check n = k) (hk : k ≠ 0) (hb : Below w.heap.size w w') : RefCheckP n w (.returned (.tuple #[.slice none 0 0, .int .i64 0, .int .i64 k])) w' :=
  ⟨hb, .inr (by rw [h]; exact ⟨hk, rfl⟩)⟩
theorem ShpRow.apart {w : World} {g : Nat} {t : TypeId} {sh : List (List Int)} {S : Option Addr} {s : List Int} (h : ShpRow w g t sh) (hI : Ints .i64 w S s) (hs : 0 < s.length) : ∀ a, S = some a → a.block ≠ g := by
  intro a ha hg
  obtain ⟨b, off, e, hl, hc⟩ := hI 0 hs
  rw [ha] at e
  injection e with e
  subst e
  simp at hg
  subst hg
  obtain ⟨vs, hl2, hk, hv⟩ := h
  rw [Nat.add_zero, hk.cell off] at hc
  by_cases ho : off < sh.length
  · obtain ⟨S', c', e1, _⟩ := hv off ho
    simp at hc
    rw [e1] at hc
    simp at hc
  · rw [Array.getElem?_eq_none (by simp; omega)] at hc
    cases hc
theorem Nt.count_used (ns : List NodeD) (id : Int) : (Nt.count ns id = 0) ↔ Nt.isUsed ns id = false := by
  unfold Nt.count Nt.isUsed
  rw [List.length_eq_zero_iff, List.filter_eq_nil_iff, List.any_eq_false]
set_option maxRecDepth 20000 in
set_option maxHeartbeats 16000000 in
theorem ref11_check (A N : Option Addr) (c d : Nat) (n : NetD) (w : World) (hok : n.ok) (hR : NetR w A N n) (hd : n.nodes.length ≤ d) (hc : n.inn.length ≤ c) (hcm : c ≤ 9223372036854775807) :
    Calls Try.prog 12 #[.agg #[.slice A n.inn.length c, .slice N n.nodes.length d]] w (RefCheckP n w) := by
  obtain ⟨i1, hj, hy0, hy1, hy2⟩ := info_parts shpsT_info
  have hnl := hok.2.1
  have hil := hok.1
  have hb0 : Below w.heap.size w (w.alloc (.cells #[.slice A n.inn.length c, .slice N n.nodes.length d] 37)) := (Below.refl _ _).alloc (Nat.le_refl _) _
  have hk0 := Blk.new w 37 #[.slice A n.inn.length c, .slice N n.nodes.length d]
  have hR0 := hR.below hb0 (Nat.le_refl _)
  by_cases hmany : n.nodes.length < 1 ∨ 512 < n.nodes.length
  · have HC := Lib.hid (Nt.check_many hmany)
    have HR := Lib.hid hR
    have Hok := Lib.hid hok
    have HR0 := Lib.hid hR0
    have Hk0 := Lib.hid hk0
    clear hR hok hR0 hk0
    rcases hmany with h | h
    · have d1 : decide ((n.nodes.length : Int) < 1) = true := by simp; omega
      go_enter Try.func12, Try.ntmps12
      go_wp2_with fail
      go_ret3
      exact RefCheckP.err HC.out (by omega) hb0
    · have d1 : decide ((n.nodes.length : Int) < 1) = false := by simp; omega
      have d2 : decide ((512 : Int) < (n.nodes.length : Int)) = true := by simp; omega
      go_enter Try.func12, Try.ntmps12
      go_wp2_with fail
      go_ret3
      exact RefCheckP.err HC.out (by omega) hb0
  · have d1 : decide ((n.nodes.length : Int) < 1) = false := by simp; omega
    have d2 : decide ((512 : Int) < (n.nodes.length : Int)) = false := by simp; omega
    have h512 : n.nodes.length ≤ 512 := by omega
    have hone : 1 ≤ n.nodes.length := by omega
    have HR := Lib.hid hR
    have Hok := Lib.hid hok
    have HR0 := Lib.hid hR0
    have Hk0 := Lib.hid hk0
    have Hmany := Lib.hid hmany
    clear hR hok hR0 hk0 hmany
    go_enter Try.func12, Try.ntmps12
    go_wp2_with fail
    have hx := Hk0.out
    generalize w.alloc (.cells #[.slice A n.inn.length c, .slice N n.nodes.length d] 37) = w1 at *
    have hbox := Hk0.out
    refine (ref03_right A c n.inn _ (by omega) HR0.out.1).mono ?_
    rintro e w2 ⟨rfl, rfl⟩
    have x1 : w1.cell? ⟨w.heap.size, 1, none⟩ = some (.slice N n.nodes.length d) := by rw [hbox.cell]; rfl
    clear d1 d2 hx
    by_cases hin : Sh.right n.inn = true
    rotate_left
    · have hin' : Sh.right n.inn = false := by simpa using hin
      have HC := Lib.hid (Nt.check_in Hmany.out hin')
      rw [hin']
      have Hbox := Lib.hid hbox
      clear hbox
      clear hin hin'
      go_wp2_with fail
      go_ret3
      exact RefCheckP.err HC.out (by omega) hb0
    · have Hin := Lib.hid hin
      rw [hin]
      have Hbox := Lib.hid hbox
      clear hbox
      clear hin
      go_wp2_with fail
      clear x1 HR0 Hk0
      go_loopw [5] (fun i wr => ∃ k : Nat, k ≤ n.nodes.length ∧ i = .int .i64 k ∧ Blk wr w.heap.size 37 #[.slice A n.inn.length c, .slice N n.nodes.length d] ∧ Below w.heap.size w wr ∧ lookBad n k) (fun i _ => n.nodes.length - (intOf i).toNat)
      case atStart => exact ⟨0, Nat.zero_le _, rfl, Hbox.out, hb0, fun j hj h => by omega⟩
      case round =>
        clear Hbox hb0
        obtain ⟨k, hk, rfl, hbox, hbw, hbad⟩ := hrel
        have hsl := hbox.lt
        have x1 : wr.cell? ⟨w.heap.size, 1, none⟩ = some (.slice N n.nodes.length d) := by rw [hbox.cell]; rfl
        by_cases hlt : k < n.nodes.length
        · obtain ⟨b, off, S, sc, J, ic, Q, qc, rfl, hNA, -, hI, -⟩ := HR.out.2.at_ hlt
          have hnok := Hok.out.2.2 _ (List.getElem_mem hlt)
          have hb21 := fun h => Nt.bads_op (n := n.nodes.length) hlt hbad h
          have hb11 := fun h m (hm : m < n.nodes[k].ins.length) h2 => Nt.bads_in (n := n.nodes.length) hlt hbad h (m := m) hm h2
          have hnext : Od.right n.nodes[k].op = true → n.nodes[k].ins.all (fun i => decide (0 ≤ i ∧ i ≤ n.nodes.length)) = true → lookBad n (k + 1) := fun h1 h2 j hj hjk => by
            by_cases e : j = k
            · subst e; exact ⟨h1, h2⟩
            · exact hbad j hj (by omega)
          have hil := hnok.2.2.1
          have hsl2 := hnok.2.1
          generalize n.nodes[k] = v at *
          have hNw := hNA.below hbw
          obtain ⟨⟨y0, y1, y2, y3, y4, y5, y6, y7, y8, y9⟩, -⟩ := hNA.below hbw
          have hcall := ref10_right v.op S sc wr (by omega)
          rw [Od.ref_right] at hcall
          have Hbox := Lib.hid hbox
          have HNA := Lib.hid hNA
          have Hnok := Lib.hid hnok
          have Hb21 := Lib.hid hb21
          have Hb11 := Lib.hid hb11
          have Hnext := Lib.hid hnext
          have HNw := Lib.hid hNw
          have Hbad := Lib.hid hbad
          have Hcall := Lib.hid hcall
          clear hbox hNA hnok hb21 hb11 hnext hNw hbad hcall
          go_wp2_with fail
          refine (Hcall.out).mono ?_
          rintro e w2 ⟨rfl, hb2⟩
          have hbx2 := hbw.trans (hb2.mono hbw.size)
          have hbox2 := Hbox.out.below hb2 hsl
          clear x1
          have x1 : w2.cell? ⟨w.heap.size, 1, none⟩ = some (.slice (some ⟨b, off, none⟩) n.nodes.length d) := by rw [hbox2.cell]; rfl
          have hN2 := HNw.out.below hb2
          obtain ⟨⟨-, -, -, -, -, -, -, -, z8, -⟩, -, hIJ, -⟩ := hN2
          clear y0 y1 y2 y3 y4 y5 y6 y7 y8 y9 Hbox Hcall
          by_cases hor : Od.right v.op = true
          rotate_left
          · have hor' : Od.right v.op = false := by simpa using hor
            have hc := Hb21.out hor'
            have HC := Lib.hid ((Nt.check_bads Hmany.out Hin.out (by rw [hc]; omega)).trans hc)
            rw [hor']
            have Hbox2 := Lib.hid hbox2
            have HIJ := Lib.hid hIJ
            clear hbox2 hIJ
            clear hor hc hor'
            go_wp2_with fail
            go_ret3
            exact RefCheckP.err HC.out (by omega) hbx2
          · have Hor := Lib.hid hor
            rw [hor]
            have Hbox2 := Lib.hid hbox2
            have HIJ := Lib.hid hIJ
            clear hbox2 hIJ
            clear hor
            go_wp2_with fail
            go_loopw [6] (fun i wx => ∃ m q : Nat, m ≤ v.ins.length ∧ i = .int .i64 m ∧ (∀ j (hj : j < v.ins.length), j < m → 0 ≤ v.ins[j] ∧ v.ins[j] ≤ n.nodes.length) ∧ wx = w2.drewN q) (fun i _ => v.ins.length - (intOf i).toNat)
            case atStart => exact ⟨0, 0, Nat.zero_le _, rfl, (fun j hj h => by omega), rfl⟩
            case round =>
              obtain ⟨m, q, hm, rfl, hall, rfl⟩ := hrel
              by_cases hlm : m < v.ins.length
              · obtain ⟨b1, off1, rfl, -, hc⟩ := HIJ.out m hlm
                rw [getD_at hlm] at hc
                have hbd := Hb11.out Hor.out m hlm
                have hnx : (0 ≤ v.ins[m] ∧ v.ins[m] ≤ n.nodes.length) → ∀ j (hj : j < v.ins.length), j < m + 1 → 0 ≤ v.ins[j] ∧ v.ins[j] ≤ n.nodes.length := fun h j hj hjm => by
                  by_cases e : j = m
                  · subst e; exact h
                  · exact hall j hj (by omega)
                generalize v.ins[m] = u at *
                have m0 : (0 : Int) ≤ (m : Int) := by omega
                have m1 : (m : Int) < (v.ins.length : Int) := by omega
                have k0 : (0 : Int) ≤ (k : Int) := by omega
                have k1 : (k : Int) < (n.nodes.length : Int) := by omega
                by_cases hu : 0 ≤ u ∧ u ≤ n.nodes.length
                · have HN := Lib.hid (hnx hu)
                  have e1 : decide (u < 0) = false := by simp; omega
                  have e2 : decide ((n.nodes.length : Int) < u) = false := by simp; omega
                  clear hu hbd
                  have Hnx := Lib.hid hnx
                  have Hall := Lib.hid hall
                  clear hnx hall
                  go_wp2_with fail
                  go_quiet (fail)
                  go_wp2_with fail
                  go_roundw
                  case rel => exact ⟨m + 1, _, by omega, by go_num, HN.out, by first | rfl | exact World.drewN_drewN _ _ _⟩
                  case measure => simp [intOf]; omega
                · have hc2 := hbd hu
                  have HC := Lib.hid ((Nt.check_bads Hmany.out Hin.out (by rw [hc2]; omega)).trans hc2)
                  clear hc2 hbd
                  have Hnx := Lib.hid hnx
                  have Hall := Lib.hid hall
                  clear hnx hall
                  by_cases hneg : u < 0
                  · have e1 : decide (u < 0) = true := by simpa using hneg
                    clear hu
                    go_wp2_with fail
                    go_quiet (fail)
                    go_wp2_with fail
                    go_ret3
                    exact RefCheckP.err HC.out (by omega) (by first | exact Bdrawn2 hbx2 _ _ | exact Bdrawn hbx2 _)
                  · have e1 : decide (u < 0) = false := by simpa using hneg
                    have e2 : decide ((n.nodes.length : Int) < u) = true := by simp; omega
                    clear hu
                    go_wp2_with fail
                    go_quiet (fail)
                    go_wp2_with fail
                    go_ret3
                    exact RefCheckP.err HC.out (by omega) (by first | exact Bdrawn2 hbx2 _ _ | exact Bdrawn hbx2 _)
              · obtain rfl : m = v.ins.length := by omega
                have HN := Lib.hid (Hnext.out Hor.out (List.all_eq_true.2 fun i hi => by obtain ⟨j, hj, rfl⟩ := List.getElem_of_mem hi; simpa using hall j hj hj))
                have Hall := Lib.hid hall
                clear hall
                go_wp2_with fail
                go_roundw
                case rel => exact ⟨k + 1, by omega, by go_num, Hbox2.out.drewN q, Bdrawn hbx2 q, HN.out⟩
                case measure => simp [intOf]; omega
        · obtain rfl : k = n.nodes.length := by omega
          have hb0 : Nt.bads n.nodes.length n.nodes = 0 := Nt.bads_none hbad
          have hins : ∀ v ∈ n.nodes, ∀ i ∈ v.ins, 0 ≤ i ∧ i ≤ n.nodes.length := fun v hv => (Nt.bads_all hb0 v hv).2
          have hrop : ∀ v ∈ n.nodes, Od.right v.op = true := fun v hv => (Nt.bads_all hb0 v hv).1
          have x0 : wr.cell? ⟨w.heap.size, 0, none⟩ = some (.slice A n.inn.length c) := by rw [hbox.cell]; rfl
          have Hbad := Lib.hid hbad
          have Hbox := Lib.hid hbox
          have Hb0 := Lib.hid hb0
          have Hins := Lib.hid hins
          have Hrop := Lib.hid hrop
          clear hbad hbox hb0 hins hrop
          go_wp2_with fail
          refine (ref11_order A N c d n _ Hok.out (HR.out.below hbw (Nat.le_refl _))).mono ?_
          rintro e w2 ⟨O, oc, rfl, hO, hoc, hoc2, hb2⟩
          have hbw2 := hbw.trans (hb2.mono hbw.size)
          have hbox2 := Hbox.out.below hb2 Hbox.out.lt
          have hw2l : w.heap.size < w2.heap.size := hbox2.lt
          clear x0 x1
          have x0 : w2.cell? ⟨w.heap.size, 0, none⟩ = some (.slice A n.inn.length c) := by rw [hbox2.cell]; rfl
          have x1 : w2.cell? ⟨w.heap.size, 1, none⟩ = some (.slice N n.nodes.length d) := by rw [hbox2.cell]; rfl
          clear Hbox
          have hole : (Nt.sorted n.nodes).length ≤ n.nodes.length := Kn.order_len_le _ _
          by_cases hcy : (Nt.sorted n.nodes).length = n.nodes.length
          rotate_left
          · have HC := Lib.hid (Nt.check_cyc Hmany.out Hin.out Hb0.out hcy)
            have e1 : decide (((Nt.sorted n.nodes).length : Int) < (n.nodes.length : Int)) = true := by simp; omega
            have e2 : decide ((Nt.sorted n.nodes).length < n.nodes.length) = true := by simp; omega
            generalize Nt.sorted n.nodes = os at *
            have Hbox2 := Lib.hid hbox2
            have Hcy := Lib.hid hcy
            have HO := Lib.hid hO
            clear hbox2 hcy hO
            go_wp2_with fail
            go_ret3
            exact RefCheckP.err HC.out (by omega) hbw2
          · have hcheck := fun h5 => Nt.check_lay Hmany.out Hin.out Hb0.out hcy h5
            have hcheck6 := fun h5 h6 => Nt.check_loss Hmany.out Hin.out Hb0.out hcy h5 h6
            have hcheck7 := fun h5 h6 => Nt.check_last Hmany.out Hin.out Hb0.out hcy h5 h6
            have hgoodF := fun h5 : (Nt.lay n.nodes (Nt.start n) (Nt.sorted n.nodes)).2 = 0 => Nt.lay_good Hin.out (Nt.sorted n.nodes).length (Nat.le_refl _) (by rw [List.take_length]; exact h5)
            rw [List.take_length] at hgoodF
            have hfull : ∀ u, u ∈ Nt.sorted n.nodes ↔ 1 ≤ u ∧ u ≤ n.nodes.length := Kn.order_full (I := Nt.insF n.nodes) (n := n.nodes.length) hcy
            have hshp : (Nt.lay n.nodes (Nt.start n) (Nt.sorted n.nodes)).1 = Nt.shapes n := rfl
            have hrng : ∀ u ∈ Nt.sorted n.nodes, 1 ≤ u ∧ u ≤ n.nodes.length := Kn.order_rng _ _
            have hbeh : ∀ a b u, Nt.sorted n.nodes = a ++ u :: b → ∀ i ∈ Nt.insF n.nodes u, i = 0 ∨ i ∈ a := fun a b u h => Kn.order_behind _ _ h
            rw [hcy]
            obtain ⟨os, hos⟩ : ∃ os, Nt.sorted n.nodes = os := ⟨_, rfl⟩
            have hshort : ∀ k, k ≤ os.length → ∀ sh, Nt.lay n.nodes (Nt.start n) (os.take k) = (sh, 0) → Nt.Good (os.take k) sh ∧ sh.length = n.nodes.length + 1 := fun k hk sh h => by
              have := lay_short (n := n) Hin.out (k := k) (by rw [hos]; exact hk) (sh := sh) (by rw [hos]; exact h)
              rw [hos] at this
              exact this
            rw [hos] at hcheck hcheck6 hcheck7 hgoodF hfull hshp hO hcy hoc hole hrng hbeh
            rw [hcy] at hoc
            have hAb : ∀ a, A = some a → a.block < w.heap.size := fun a ha => by
              obtain ⟨b, off, e, hl, -⟩ := HR.out.1 0 (right_short Hin.out).1
              rw [ha] at e; injection e with e; subst e; exact hl
            have hInn := HR.out.1.below hbw2 (Nat.le_refl _)
            have e1 : IntKind.i64.wrap ((n.nodes.length : Int) + 1) = ((n.nodes.length + 1 : Nat) : Int) := by rw [IntWalk.i64_in _ (by omega)]; omega
            have Hcheck := Lib.hid hcheck
            have Hcheck6 := Lib.hid hcheck6
            have Hcheck7 := Lib.hid hcheck7
            have HgoodF := Lib.hid hgoodF
            have Hfull := Lib.hid hfull
            have Hshp := Lib.hid hshp
            have Hcy := Lib.hid hcy
            have Hos := Lib.hid hos
            have HO := Lib.hid hO
            have Hbox2 := Lib.hid hbox2
            have Hrng := Lib.hid hrng
            have Hbeh := Lib.hid hbeh
            have Hshort := Lib.hid hshort
            have HAb := Lib.hid hAb
            have HInn := Lib.hid hInn
            clear hcheck hcheck6 hcheck7 hgoodF hfull hshp hcy hos hO hbox2 hrng hbeh hshort hAb hInn
            go_wp2_with (at_make; refine wpList_make_full _ rfl _ _ 32 rfl w2.heap.size 22 i1 (.slice none 0 0) 1 Try.underlying32 hj hy0 hy1 _ _ _ _ (n.nodes.length + 1) rfl rfl (by first | rfl | simp | (go_simp; rfl)) (by first | rfl | simp | (go_simp; rfl)) ?b2 ?b3 ?b4 ?_)
            case b2 => rw [hy2]; omega
            case b3 => unfold maxLen; omega
            case b4 => exact Nat.le_refl _
            intro w3 hown hgrow
            have hblk := own_cur hown
            rw [made_one] at hblk
            obtain ⟨g, hg⟩ : ∃ g, w2.heap.size = g := ⟨_, rfl⟩
            have hrow : ShpRow w3 g 22 (List.replicate (n.nodes.length + 1) []) := by rw [← hg]; exact ShpRow.new (by simpa [Blk] using hblk)
            have hb3 : Below w2.heap.size w2 w3 := (Below.refl _ w2).grown hgrow (Nat.le_refl _) (by simp)
            have hbw3 := hbw2.trans (hb3.mono hbw2.size)
            have hbox3 := Hbox2.out.below hb3 hw2l
            have hrow0 := hrow.set_ (i := 0) (HInn.out.below hb3 (Nat.le_refl _)) hc hcm (fun a ha => by have := HAb.out a ha; omega)
            rw [show (List.replicate (n.nodes.length + 1) ([] : List Int)).set 0 n.inn = Nt.start n from rfl] at hrow0
            have hbox4 := hbox3.far (p := ⟨g, 0, none⟩) (by simp; omega) (.slice A n.inn.length c)
            have hbw4 := hbw3.setCell (p := ⟨g, 0, none⟩) (by simp; omega) (.slice A n.inn.length c)
            have hO4 := (HO.out.below hb3 (Nat.le_refl _))
            obtain ⟨S0, c0, z0, -⟩ := hrow.at_ (j := 0) (by simp)
            have f0 : w3.frozen? ⟨g, 0, none⟩ = false := by obtain ⟨vs, _, hk, _⟩ := hrow; exact hk.frozen 0
            have hOb : ∀ a, O = some a → a.block ≠ g := fun a ha => by
              obtain ⟨b, off, e, hl, -⟩ := HO.out 0 (by have := Hcy.out; omega)
              rw [ha] at e; injection e with e; subst e; simp; omega
            have hO5 := hO4.set_far (p := ⟨g, 0, none⟩) hOb (.slice A n.inn.length c)
            clear x0 x1
            have x0 : w3.cell? ⟨w.heap.size, 0, none⟩ = some (.slice A n.inn.length c) := by rw [hbox3.cell]; rfl
            have x1 : w3.cell? ⟨w.heap.size, 1, none⟩ = some (.slice N n.nodes.length d) := by rw [hbox3.cell]; rfl
            rw [hg]
            have hgw : w.heap.size < g := by omega
            have hgne : ¬ w.heap.size = g := by omega
            clear hblk hown hgrow hrow hO4 hbw2 hb2 hbw hg
            have Hrow0 := Lib.hid hrow0
            have Hbox3 := Lib.hid hbox3
            have Hbox4 := Lib.hid hbox4
            have HO5 := Lib.hid hO5
            have HOb := Lib.hid hOb
            clear hrow0 hbox3 hbox4 hO5 hOb
            clear HO HInn
            go_wp2_with fail
            clear z0 f0 x0 x1 hb3 hbw3
            go_loopw [9] (fun i wr => ∃ k : Nat, k ≤ os.length ∧ i = .int .i64 k ∧ Blk wr w.heap.size 37 #[.slice A n.inn.length c, .slice N n.nodes.length d] ∧ Below w.heap.size w wr ∧ Ints .i64 wr O os ∧ ∃ sh, Nt.lay n.nodes (Nt.start n) (os.take k) = (sh, 0) ∧ ShpRow wr g 22 sh) (fun i _ => os.length - (intOf i).toNat)
            case atStart => exact ⟨0, Nat.zero_le _, rfl, Hbox4.out, hbw4, HO5.out, Nt.start n, rfl, Hrow0.out⟩
            case round =>
              obtain ⟨k, hk, rfl, hbox, hbw, hO, sh, hlay, hrow⟩ := hrel
              clear Hrow0 Hbox3 Hbox4 HO5 hbw4
              obtain ⟨hgood, hshl⟩ := Hshort.out k hk sh hlay
              have x1 : wr.cell? ⟨w.heap.size, 1, none⟩ = some (.slice N n.nodes.length d) := by rw [hbox.cell]; rfl
              have hol := Hcy.out
              by_cases hlt : k < os.length
              · obtain ⟨b, off, rfl, -, hc⟩ := hO k hlt
                rw [getD_at hlt] at hc
                have hr := Hrng.out _ (List.getElem_mem hlt)
                have hsplit : os = os.take k ++ os[k] :: os.drop (k + 1) := by rw [← List.drop_eq_getElem_cons hlt, List.take_append_drop]
                have hbe := Hbeh.out _ _ _ hsplit
                obtain ⟨j, hj'⟩ : ∃ j : Nat, os[k] = (j : Int) + 1 := ⟨(os[k] - 1).toNat, by omega⟩
                have hjl : j < n.nodes.length := by omega
                have hlay' := fun h : (Nt.layStep n.nodes sh os[k]).2 = 0 => Nt.lay_snoc (id := os[k]) hlay h
                have hfail := fun h : (Nt.layStep n.nodes sh os[k]).2 ≠ 0 => Nt.lay_fail (b := os.drop (k + 1)) (id := os[k]) hlay h
                rw [← List.take_succ_eq_append_getElem hlt] at hlay'
                rw [← hsplit] at hfail
                have hst : Nt.layStep n.nodes sh os[k] = Od.shape n.nodes[j].op n.nodes[j].p (Nt.pick sh n.nodes[j].ins) := by unfold Nt.layStep; rw [hj', Nt.node_at hjl]
                have hiF : Nt.insF n.nodes os[k] = n.nodes[j].ins := by unfold Nt.insF; rw [hj', Nt.node_at hjl]
                rw [hst] at hlay' hfail
                rw [hiF] at hbe
                rw [hj'] at hc hlay'
                rw [show ((j : Int) + 1).toNat = j + 1 by omega] at hlay'
                have hnok := Hok.out.2.2 _ (List.getElem_mem hjl)
                have hrv := Hrop.out _ (List.getElem_mem hjl)
                have hinr := Hins.out _ (List.getElem_mem hjl)
                obtain ⟨b1, off1, S, sc, J, ic, Q, qc, rfl, hNA, hs1, hI1, hq1⟩ := HR.out.2.at_ hjl
                have hgr : ∀ i ∈ n.nodes[j].ins, 0 ≤ i ∧ i.toNat < sh.length ∧ Sh.right (sh.getD i.toNat []) = true := fun i hi => ⟨(hinr i hi).1, by have := hinr i hi; omega, hgood i (hbe i hi)⟩
                generalize n.nodes[j] = v at *
                have hNw := hNA.below hbw
                obtain ⟨⟨y0, y1, y2, y3, y4, y5, y6, y7, y8, y9⟩, -⟩ := hNA.below hbw
                have j1 : IntKind.i64.wrap ((j : Int) + 1 - 1) = (j : Int) := by rw [IntWalk.i64_in _ (by omega)]; omega
                have j2 : (j : Int) < n.nodes.length := by omega
                have j0 : (0 : Int) ≤ (j : Int) := by omega
                have k0 : (0 : Int) ≤ (k : Int) := by omega
                have k1 : (k : Int) < (n.nodes.length : Int) := by omega
                have j4 : (0 : Int) ≤ (j : Int) + 1 := by omega
                have j5 : IntKind.i64.wrap (j : Int) = (j : Int) := IntWalk.i64_in _ (by omega)
                have hcall : ∀ W : World, Ints .i64 W S v.op.s → Ints .i64 W J v.ins → Shps W Q v.p → Shps W (some ⟨g, 0, none⟩) sh → Calls Try.prog 40 #[.agg #[.int .i64 v.op.kind, .int .i64 v.op.k, .int .i64 v.op.width, .int .i64 v.op.step, .int .i64 v.op.side, .int .i64 v.op.frm, .int .i64 v.op.to, .slice S v.op.s.length sc, .slice J v.ins.length ic, .slice Q v.p.length qc], .slice (some ⟨g, 0, none⟩) (n.nodes.length + 1) (n.nodes.length + 1)] W (RefP (Od.shape v.op v.p (Nt.pick sh v.ins)) W) := fun W q1 q2 q3 q4 => by
                  rw [← hshl]
                  exact ref11_shape v S J Q sc ic qc g sh.length sh W hnok hrv hs1.1 hs1.2 q1 q2 q3 q4 hgr
                have hrgt := fun h : (Od.shape v.op v.p (Nt.pick sh v.ins)).2 = 0 => right_short (Od.shape_right h)
                generalize Od.shape v.op v.p (Nt.pick sh v.ins) = r at *
                have hcall2 := hcall
                have F1 := Lib.hid hNw.2.1
                have F2 := Lib.hid hNw.2.2.1
                have F3 := Lib.hid hNw.2.2.2
                have F4 := Lib.hid hrow.shps
                have HC1 := Lib.hid hcall
                have HT := Lib.hid hrgt
                have HL := Lib.hid hlay'
                have HFa := Lib.hid hfail
                clear hcall hcall2 hrgt hlay' hfail hNw hNA hgr hinr hnok hrv hst hiF hbe hsplit hj' hgood
                have Hbox := Lib.hid hbox
                have HO := Lib.hid hO
                have Hlay := Lib.hid hlay
                have Hrow := Lib.hid hrow
                clear hbox hO hlay hrow
                have kn : k < n.nodes.length := by omega
                go_wp2_with fail
                go_region_held3 (fun w' => w'.cell? ⟨w.heap.size, 1, none⟩ = some (.slice (some ⟨b1, off1, none⟩) n.nodes.length d) ∧ w'.cell? ⟨b, off + k, none⟩ = some (.int .i64 ((j : Int) + 1)) ∧ w'.cell? ⟨b1, off1 + j * 10, none⟩ = some (.int .i64 v.op.kind) ∧ w'.cell? ⟨b1, off1 + j * 10 + 1, none⟩ = some (.int .i64 v.op.k) ∧ w'.cell? ⟨b1, off1 + j * 10 + 2, none⟩ = some (.int .i64 v.op.width) ∧ w'.cell? ⟨b1, off1 + j * 10 + 3, none⟩ = some (.int .i64 v.op.step) ∧ w'.cell? ⟨b1, off1 + j * 10 + 4, none⟩ = some (.int .i64 v.op.side) ∧ w'.cell? ⟨b1, off1 + j * 10 + 5, none⟩ = some (.int .i64 v.op.frm) ∧ w'.cell? ⟨b1, off1 + j * 10 + 6, none⟩ = some (.int .i64 v.op.to) ∧ w'.cell? ⟨b1, off1 + j * 10 + 7, none⟩ = some (.slice S v.op.s.length sc) ∧ w'.cell? ⟨b1, off1 + j * 10 + 8, none⟩ = some (.slice J v.ins.length ic) ∧ w'.cell? ⟨b1, off1 + j * 10 + 9, none⟩ = some (.slice Q v.p.length qc)) (first | go_keep | (exact ⟨cell_below hb9 x1, cell_below hb9 hc, cell_below hb9 y0, cell_below hb9 y1, cell_below hb9 y2, cell_below hb9 y3, cell_below hb9 y4, cell_below hb9 y5, cell_below hb9 y6, cell_below hb9 y7, cell_below hb9 y8, cell_below hb9 y9⟩))
                  ((go_at_call 40; refine (HC1.out _ (by exact F1.out) (by exact F2.out) (by exact F3.out) (by exact F4.out)).mono ?_; rintro e w9 ⟨S9, c9, rfl, hI9, h91, h92, hb9⟩))
                have hb8 : Below wr.heap.size wr w9 := ⟨hb9.os, hb9.tape, hb9.output, hb9.size, hb9.block⟩
                have hbw9 := hbw.trans (hb8.mono hbw.size)
                clear y0 y1 y2 y3 y4 y5 y6 y7 y8 y9 hb9 x1 HC1 F1 F2 F3 F4
                by_cases hr2 : r.2 = 0
                · have q1 : (r.2 != 0) = false := by simp [hr2]
                  have hrow9 := Hrow.out.below hb8 (Nat.le_refl _)
                  have hbox9 := Hbox.out.below hb8 Hbox.out.lt
                  have hO9 := HO.out.below hb8 (Nat.le_refl _)
                  have hc9 := cell_below hb8 hc
                  have hj1 : j + 1 < sh.length := by omega
                  obtain ⟨Sm, cm, ym, -⟩ := hrow9.at_ hj1
                  have fm : w9.frozen? ⟨g, j + 1, none⟩ = false := by obtain ⟨vs, _, hk, _⟩ := hrow9; exact hk.frozen (j + 1)
                  have hset := hrow9.set_ (i := j + 1) hI9 h91 h92 (hrow9.apart hI9 (HT.out hr2).1)
                  have HS := Lib.hid hset
                  have HBX := Lib.hid (hbox9.far (p := ⟨g, j + 1, none⟩) hgne (.slice S9 r.1.length c9))
                  have hbw5 := hbw9.setCell (p := ⟨g, j + 1, none⟩) (by simp; omega) (.slice S9 r.1.length c9)
                  have HO5 := Lib.hid (hO9.set_far (p := ⟨g, j + 1, none⟩) HOb.out (.slice S9 r.1.length c9))
                  have HL2 := Lib.hid (HL.out hr2)
                  have j3 : ((j : Int) + 1) < ((n.nodes.length + 1 : Nat) : Int) := by omega
                  have j6 : ((j : Int) + 1).toNat = j + 1 := by omega
                  clear hset hrow9 hbox9 hO9 hr2 hc
                  have HI9 := Lib.hid hI9
                  clear hI9
                  go_wp2_with fail
                  go_roundw
                  case rel => exact ⟨k + 1, by omega, by go_num, HBX.out, hbw5, HO5.out, _, HL2.out, HS.out⟩
                  case measure => simp [intOf]; omega
                · have q1 : (r.2 != 0) = true := by simp [hr2]
                  have hck := Hcheck.out
                  rw [HFa.out hr2] at hck
                  have HC := Lib.hid (hck hr2)
                  have HR2 := Lib.hid hr2
                  have HI9 := Lib.hid hI9
                  clear hI9
                  clear hr2 hck
                  go_wp2_with fail
                  go_ret3
                  exact RefCheckP.err HC.out HR2.out hbw9
              · obtain rfl : k = os.length := by omega
                rw [List.take_length] at hlay
                have hc6 := fun h6 => Hcheck6.out (by rw [hlay]) h6
                have hc7 := fun h6 => Hcheck7.out (by rw [hlay]) h6
                have hg2 := HgoodF.out (by rw [hlay])
                have hsh := Hshp.out
                rw [hlay] at hg2 hsh
                have hsh : sh = Nt.shapes n := hsh
                subst hsh
                have hg2 : Nt.Good os (Nt.shapes n) := hg2
                have i2 : ¬ ((os.length : Int) < (n.nodes.length : Int)) := by omega
                have i3 : ¬ (os.length < n.nodes.length) := by omega
                clear hgood hk hlt
                have Hc6 := Lib.hid hc6
                have Hc7 := Lib.hid hc7
                have Hg2 := Lib.hid hg2
                have Hlay := Lib.hid hlay
                have Hrow := Lib.hid hrow
                have Hbox := Lib.hid hbox
                have HO := Lib.hid hO
                clear hc6 hc7 hg2 hlay hrow hbox hO
                have Hol := Lib.hid hol
                clear hol
                go_wp2_with fail
                clear x1
                obtain ⟨w5, rfl⟩ : ∃ w5, w5 = wr := ⟨wr, rfl⟩
                go_loopw [12, 13, 14] (fun l m i wx => ∃ k : Nat, k ≤ n.nodes.length + 1 ∧ i = .int .i64 k ∧ l = .int .i64 ((Nt.unusedTo n.nodes k).getLastD 0) ∧ m = .int .i64 ((Nt.unusedTo n.nodes k).length : Nat) ∧ Below w5.heap.size w5 wx) (fun _ _ i _ => n.nodes.length + 1 - (intOf i).toNat)
                case atStart => exact ⟨0, Nat.zero_le _, rfl, rfl, rfl, Below.refl _ _⟩
                case round =>
                  obtain ⟨k, hk, rfl, rfl, rfl, hbx⟩ := hrel
                  have hbox5 := Hbox.out.below hbx Hbox.out.lt
                  have hbwx := hbw.trans (hbx.mono hbw.size)
                  have x0 : wr.cell? ⟨w.heap.size, 0, none⟩ = some (.slice A n.inn.length c) := by rw [hbox5.cell]; rfl
                  have x1 : wr.cell? ⟨w.heap.size, 1, none⟩ = some (.slice N n.nodes.length d) := by rw [hbox5.cell]; rfl
                  have hul := Nt.unusedTo_len n.nodes k
                  by_cases hlt : k ≤ n.nodes.length
                  · have HS := Lib.hid (Nt.unusedTo_succ n.nodes k)
                    obtain ⟨L0, hL0⟩ : ∃ L0, (Nt.unusedTo n.nodes k).getLastD 0 = L0 := ⟨_, rfl⟩
                    obtain ⟨c0, hc0⟩ : ∃ c0, (Nt.unusedTo n.nodes k).length = c0 := ⟨_, rfl⟩
                    rw [hc0] at hul
                    rw [hL0, hc0]
                    have hcu := Nt.count_used n.nodes (k : Int)
                    have hcall := ref11_users A N c d n (k : Int) wr Hok.out (HR.out.below hbwx (Nat.le_refl _))
                    generalize Nt.count n.nodes (k : Int) = cn at *
                    have HL0 := Lib.hid hL0
                    have Hc0 := Lib.hid hc0
                    have Hcu := Lib.hid hcu
                    have Hcall := Lib.hid hcall
                    have Hbox5 := Lib.hid hbox5
                    clear hL0 hc0 hcu hcall hbox5
                    go_wp2_with fail
                    refine (Hcall.out).mono ?_
                    rintro e w6 ⟨rfl, hb6⟩
                    have hbx6 := hbx.trans (hb6.mono hbx.size)
                    clear x0 x1
                    by_cases hz : cn = 0
                    · have HU := Lib.hid (Hcu.out.1 hz)
                      have e1 : ((cn : Int) == 0) = true := by simp [hz]
                      have e2 : (cn == 0) = true := by simp [hz]
                      subst hz
                      go_wp2_with fail
                      go_roundw
                      case rel => exact ⟨k + 1, by omega, by go_num, by rw [HS.out, HU.out]; simp, by rw [HS.out, HU.out, if_neg (by simp), List.length_append, Hc0.out]; go_num, hbx6⟩
                      case measure => simp [intOf]; omega
                    · have HU := Lib.hid (show Nt.isUsed n.nodes (k : Int) = true by
                        cases h : Nt.isUsed n.nodes (k : Int)
                        · exact absurd (Hcu.out.2 h) hz
                        · rfl)
                      have e1 : ((cn : Int) == 0) = false := by simp; omega
                      have e2 : (cn == 0) = false := by simp; omega
                      clear hz
                      go_wp2_with fail
                      go_roundw
                      case rel => exact ⟨k + 1, by omega, by go_num, by rw [HS.out, HU.out, if_pos rfl, HL0.out], by rw [HS.out, HU.out, if_pos rfl, Hc0.out], hbx6⟩
                      case measure => simp [intOf]; omega
                  · obtain rfl : k = n.nodes.length + 1 := by omega
                    rw [Nt.unusedTo_all]
                    have i4 : ¬ (((n.nodes.length + 1 : Nat) : Int) ≤ (n.nodes.length : Int)) := by omega
                    have hl1 : (Nt.unused n.nodes).getLastD 0 = Nt.loss n.nodes := rfl
                    rw [hl1]
                    have hlok : Nt.lossOk n.nodes = decide ((Nt.unused n.nodes).length = 1 ∧ Nt.loss n.nodes ≠ 0) := rfl
                    rw [Nt.unusedTo_all] at hul
                    clear hl1
                    by_cases hu1 : (Nt.unused n.nodes).length = 1
                    rotate_left
                    · have HC := Lib.hid (Hc6.out (by rw [hlok]; simp [hu1]))
                      have e1 : (((Nt.unused n.nodes).length : Int) != 1) = true := by rw [bne_iff_ne]; omega
                      have e2 : ((Nt.unused n.nodes).length != 1) = true := by rw [bne_iff_ne]; omega
                      generalize (Nt.unused n.nodes).length = ul at *
                      have Hlok := Lib.hid hlok
                      clear hlok
                      clear hu1
                      go_wp2_with fail
                      go_ret3
                      exact RefCheckP.err HC.out (by omega) hbwx
                    · by_cases hl0 : Nt.loss n.nodes = 0
                      · have HC := Lib.hid (Hc6.out (by rw [hlok]; simp [hl0]))
                        rw [hu1, hl0]
                        clear hu1 hl0 hlok
                        go_wp2_with fail
                        go_ret3
                        exact RefCheckP.err HC.out (by omega) hbwx
                      · have hlo : Nt.lossOk n.nodes = true := by rw [hlok]; simp [hu1, hl0]
                        have hlm := (Nt.loss_mem hlo).2
                        have hch := Hc7.out hlo
                        obtain ⟨l, hl⟩ : ∃ l : Nat, Nt.loss n.nodes = (l : Int) := ⟨(Nt.loss n.nodes).toNat, by omega⟩
                        have Hl := Lib.hid hl
                        rw [hu1]
                        rw [hl] at hlm hch hl0 ⊢
                        rw [Int.toNat_natCast] at hch
                        have hll : l < (Nt.shapes n).length := by omega
                        have hgl := Hg2.out (l : Int) (.inr ((Hfull.out _).2 (by omega)))
                        rw [Int.toNat_natCast, gets_at hll] at hgl
                        rw [gets_at hll] at hch
                        have hrow5 := Hrow.out.below hbx (Nat.le_refl _)
                        obtain ⟨Sl, sc, hcS, hIS, hs1, hs2, -⟩ := hrow5.at_ hll
                        have hsz := ref03_size Sl sc _ wr hgl hIS
                        have e1 : ((l : Int) == 0) = false := by simp; omega
                        have e1' : (l == 0) = false := by simp; omega
                        have l0 : (0 : Int) ≤ (l : Int) := by omega
                        have l1 : (l : Int) < ((n.nodes.length + 1 : Nat) : Int) := by omega
                        generalize (Nt.shapes n)[l] = s at *
                        have Hrow5 := Lib.hid hrow5
                        have Hch := Lib.hid hch
                        have Hl := Lib.hid hl
                        have Hsz := Lib.hid hsz
                        have HIS := Lib.hid hIS
                        have Hgl := Lib.hid hgl
                        have Hlo := Lib.hid hlo
                        have Hlok := Lib.hid hlok
                        clear hrow5 hch hl hsz hIS hgl hlo hlok
                        clear hu1 hl0
                        go_wp2_with fail
                        refine (Hsz.out).mono ?_
                        rintro e w7 ⟨rfl, rfl⟩
                        by_cases hp : Safe.prod s = 1
                        · have HC := Lib.hid (show Nt.check n = 0 by rw [Hch.out, if_neg (by simp [hp])])
                          have e2 : (Safe.prod s != 1) = false := by simp [hp]
                          clear hp
                          go_wp2_with fail
                          go_ret3
                          exact ⟨hbwx, .inl ⟨HC.out, g, by rw [Hl.out]; rfl, by omega, Hrow5.out⟩⟩
                        · have HC := Lib.hid (show Nt.check n = 23 by rw [Hch.out, if_pos hp])
                          have e2 : (Safe.prod s != 1) = true := by simp [hp]
                          clear hp
                          go_wp2_with fail
                          go_ret3
                          exact RefCheckP.err HC.out (by omega) hbwx
end Go.Proofs.Ytjkhpbngpceenaa
