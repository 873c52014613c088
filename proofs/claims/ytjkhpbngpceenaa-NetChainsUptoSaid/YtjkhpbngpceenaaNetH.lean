/- Layer 11 (net): Copy: contract. -/
import Derived.Test.YtjkhpbngpceenaaNetG
import Derived.Test.YtjkhpbngpceenaaLater
import Derived.Test.YtjkhpbngpceenaaNetI
import Derived.Deep.DeepCutAuto
import Derived.Deep.RegionHeld3
namespace Go.Proofs.Ytjkhpbngpceenaa
open Go.RowKit
theorem Blk.new' {w : World} {g : Nat} (t : TypeId) (cs : Array Value) (h : g = w.heap.size) : Blk (w.alloc (.cells cs t)) g t cs := by subst h; exact Blk.new w t cs
theorem Blk.set2 {w : World} {g : Nat} {t : TypeId} {a b : Value} (h : Blk w g t #[a, b]) (x y : Value) : Blk ((w.setCell ⟨g, 0, none⟩ x).setCell ⟨g, 1, none⟩ y) g t #[x, y] := (h.set_ 0 x).set_ 1 y
theorem Blk.far' {w : World} {g : Nat} {t : TypeId} {cs : Array Value} (h : Blk w g t cs) {b i : Nat} (hp : g ≠ b) (u : Value) : Blk (w.setCell ⟨b, i, none⟩ u) g t cs := h.far (p := ⟨b, i, none⟩) hp u
theorem two_lt (w : World) (o p : Obj) : w.heap.size + 1 < ((w.alloc o).alloc p).drew.heap.size := by simp
theorem bcell {B : Nat} {W w1 : World} (hb : Below B W w1) : (∀ b o, b < B → w1.cell? ⟨b, o, none⟩ = W.cell? ⟨b, o, none⟩) ∧ (∀ b o, b < B → w1.frozen? ⟨b, o, none⟩ = W.frozen? ⟨b, o, none⟩) :=
  ⟨fun b o h => hb.cell (p := ⟨b, o, none⟩) h, fun b o h => hb.frozen (p := ⟨b, o, none⟩) h⟩
def CloneP (zs : List Int) (w : World) (e : Ending) (w' : World) : Prop :=
  ∃ J jc, e = .returned (.slice J zs.length jc) ∧ w'.ownsRow w.heap.size 3 1 (.slice J zs.length jc) zs.length (zs.map (Value.int .i64)) ∧ Below w.heap.size w w'
theorem clone_ints (A : Option Addr) (c : Nat) (zs : List Int) (w : World) (hl : zs.length ≤ 1048576) (hI : Ints .i64 w A zs) :
    Calls Try.prog 43 #[.slice A zs.length c] w (CloneP zs w) := by
  by_cases h : zs = []
  · subst h
    rcases A with _ | a
    · refine (Try.slices_Clone_int_nil 0 c w).mono ?_
      rintro e w' ⟨rfl, rfl⟩
      exact ⟨none, 0, rfl, World.ownsRow_nil _ _ _ _, Below.refl _ _⟩
    · refine (Try.slices_Clone_int_zero a c w).mono ?_
      rintro e w' ⟨v, rfl, ho, -, hb⟩
      obtain ⟨J, jc, rfl⟩ := own_form ho
      exact ⟨J, jc, rfl, ho, hb⟩
  · obtain ⟨b, off, rfl, -, -⟩ := hI 0 (List.length_pos_iff.2 h)
    refine (Try.slices_Clone_int b off zs.length c zs w (Nat.le_refl _) (by omega) (fun j hj => ?_)).mono ?_
    · obtain ⟨b', o', e, -, hc⟩ := hI j hj
      injection e with e; injection e with e1 e2; subst e1 e2
      exact hc
    · rintro e w' ⟨v, rfl, ho, -, hb⟩
      rw [List.take_length] at ho
      obtain ⟨J, jc, rfl⟩ := own_form ho
      exact ⟨J, jc, rfl, ho, hb⟩
/-- The new net, before its nodes are copied. -/
def CpCut (n : NetD) (w1 : World) (zc : Array Value) (v v9 v13 : Value) (wx : World) : Prop :=
  ∃ G a g, v = .pointer (some ⟨G, 0, none⟩) ∧ v9 = .slice (some ⟨a, 0, none⟩) n.inn.length n.inn.length ∧ v13 = .slice (some ⟨g, 0, none⟩) n.nodes.length n.nodes.length ∧ w1.heap.size < G ∧ w1.heap.size < a ∧ w1.heap.size < g ∧ G ≠ g ∧ Blk wx G 26 #[.slice (some ⟨a, 0, none⟩) n.inn.length n.inn.length, .slice (some ⟨g, 0, none⟩) n.nodes.length n.nodes.length] ∧
    Blk wx a 3 (n.inn.map (Value.int .i64)).toArray ∧ Blk wx g 46 zc ∧ Blk wx w1.heap.size 26 #[.slice none 0 0, .slice none 0 0] ∧ Later w1 wx
theorem node_info : (Try.prog.info? 46).map (fun i => (i.zero, i.size, i.bytes)) = some (some (.agg #[.int .i64 0, .int .i64 0, .int .i64 0, .int .i64 0, .int .i64 0, .int .i64 0, .int .i64 0, .slice none 0 0, .slice none 0 0, .slice none 0 0]), 10, 128) := by kernel_rfl
set_option maxRecDepth 20000 in
set_option maxHeartbeats 8000000 in
theorem net_copy (A N : Option Addr) (c d : Nat) (n : NetD) (w : World) (hok : n.ok) (hR : NetR w A N n) :
    Calls Try.prog 17 #[.agg #[.slice A n.inn.length c, .slice N n.nodes.length d]] w fun e w' => NetCp w.heap.size n e w' ∧ Below w.heap.size w w' := by
  obtain ⟨i0, hi, hz0, hz1, hz2⟩ := info_parts node_info
  have hb0 : Below w.heap.size w (w.alloc (.cells #[.slice A n.inn.length c, .slice N n.nodes.length d] 26)) := (Below.refl _ _).alloc (Nat.le_refl _) _
  have hk0 := Blk.new w 26 #[.slice A n.inn.length c, .slice N n.nodes.length d]
  have x0 : (w.alloc (.cells #[.slice A n.inn.length c, .slice N n.nodes.length d] 26)).cell? ⟨w.heap.size, 0, none⟩ = some (.slice A n.inn.length c) := by rw [hk0.cell]; rfl
  have x1 : (w.alloc (.cells #[.slice A n.inn.length c, .slice N n.nodes.length d] 26)).cell? ⟨w.heap.size, 1, none⟩ = some (.slice N n.nodes.length d) := by rw [hk0.cell]; rfl
  have hl1 := hok.1
  have hl2 := hok.2.1
  have hmk : ∀ W : World, (Instr.makeSlice 24 (.int .i64 (n.nodes.length : Int)) (.int .i64 (n.nodes.length : Int))).run Try.prog W = .ok (.slice (some ⟨W.heap.size, 0, none⟩) n.nodes.length n.nodes.length) (W.alloc (.cells (madeCells (Value.agg #[.int .i64 0, .int .i64 0, .int .i64 0, .int .i64 0, .int .i64 0, .int .i64 0, .int .i64 0, .slice none 0 0, .slice none 0 0, .slice none 0 0]).cells (n.nodes.length * 10)) 46)) := fun W => by
    have := run_make (P := Try.prog) W 24 46 i0 _ Try.underlying24 hi hz0 .i64 .i64 n.nodes.length n.nodes.length (by omega) (by omega) (by rw [hz2]; omega) (by omega)
    rw [hz1, Int.toNat_natCast] at this
    exact this
  have hs1 := hk0.lt
  have her : (w.alloc (.cells #[.slice A n.inn.length c, .slice N n.nodes.length d] 26)).heap.size = w.heap.size + 1 := by simp
  have hzc : (madeCells (Value.agg #[.int .i64 0, .int .i64 0, .int .i64 0, .int .i64 0, .int .i64 0, .int .i64 0, .int .i64 0, .slice none 0 0, .slice none 0 0, .slice none 0 0]).cells (n.nodes.length * 10)).size = n.nodes.length * 10 := size_madeCells _ _
  generalize madeCells (Value.agg #[.int .i64 0, .int .i64 0, .int .i64 0, .int .i64 0, .int .i64 0, .int .i64 0, .int .i64 0, .slice none 0 0, .slice none 0 0, .slice none 0 0]).cells (n.nodes.length * 10) = zc at *
  have hR1 := hR.below hb0 (Nat.le_refl _)
  have Hok := Lib.hid hok
  have HR := Lib.hid hR
  have Hk0 := Lib.hid hk0
  have HR1 := Lib.hid hR1
  have Hzc := Lib.hid hzc
  have Her := Lib.hid her
  clear hok hR hk0 hR1 hzc her
  go_enter Try.func17, Try.ntmps17
  go_wp2_with fail
  generalize w.alloc (.cells #[.slice A n.inn.length c, .slice N n.nodes.length d] 26) = w1 at *
  go_upto_region 1 with fail
  go_cut [3, 9, 13] (CpCut n w1 zc)
  case first =>
    go_region_held3 (fun W => W.cell? ⟨w.heap.size, 0, none⟩ = some (.slice A n.inn.length c) ∧ W.cell? ⟨w.heap.size, 1, none⟩ = some (.slice N n.nodes.length d)) (first | exact ⟨x0, x1⟩ | exact ⟨Later.cell (show Later w1 _ by repeat (first | exact Later.refl _ | apply Later.drew | apply Later.alloc | refine Later.call ?_ (by assumption) | refine Later.set ?_ (by first | omega | (simp; done) | (simp; omega)) _)) x0, Later.cell (show Later w1 _ by repeat (first | exact Later.refl _ | apply Later.drew | apply Later.alloc | refine Later.call ?_ (by assumption) | refine Later.set ?_ (by first | omega | (simp; done) | (simp; omega)) _)) x1⟩)
      (first
      | (go_at_call 42; refine (shape_copy A c n.inn _ (by omega) (HR1.out.1.below (show Later w1 _ by repeat (first | exact Later.refl _ | apply Later.drew | apply Later.alloc | refine Later.call ?_ (by assumption) | refine Later.set ?_ (by first | omega | (simp; done) | (simp; omega)) _)) (Nat.le_refl _))).mono ?_; rintro e w2 ⟨h, rfl, hh, hB, hb2⟩; obtain ⟨hcc, hcf⟩ := bcell hb2; have hzz := hb2.size; simp at hzz; try (have q0 := hcc (w1.heap.size + 1) 0 (two_lt w1 _ _); have q1 := hcc (w1.heap.size + 1) 1 (two_lt w1 _ _); have q2 := hcf (w1.heap.size + 1) 0 (two_lt w1 _ _); have q3 := hcf (w1.heap.size + 1) 1 (two_lt w1 _ _); simp at q0 q1 q2 q3; have hz3 := Nat.lt_of_lt_of_le (two_lt w1 _ _) hb2.size)))
    all_goals
      go_wp2_with fail
      go_meet
      simp at hh
      have hB' : Blk w2 _ 3 (n.inn.map (Value.int .i64)).toArray := hB
      refine ⟨_, _, _, rfl, rfl, rfl, ?_, ?_, ?_, ?_, ?_, ?_, ?_, ?_, (show Later w1 _ by repeat (first | exact Later.refl _ | apply Later.drew | apply Later.alloc | refine Later.call ?_ (by assumption) | refine Later.set ?_ (by first | omega | (simp; done) | (simp; omega)) _))⟩
      · omega
      · omega
      · omega
      · omega
      · exact (by repeat (first | (with_reducible exact hB') | ((with_reducible refine Blk.new' _ _ ?_); first | rfl | (simp; done) | (simp; omega)) | (with_reducible refine Blk.set2 (a := .slice none 0 0) (b := .slice none 0 0) ?_ _ _) | ((with_reducible refine Blk.far' ?_ ?_ _); rotate_left; omega) | (with_reducible refine Blk.alloc ?_ _) | (with_reducible refine Blk.drew ?_) | ((with_reducible refine Blk.below ?_ hb2 ?_); rotate_left; (focus first | (simp; done) | (simp; omega)))))
      · exact (by repeat (first | (with_reducible exact hB') | ((with_reducible refine Blk.new' _ _ ?_); first | rfl | (simp; done) | (simp; omega)) | (with_reducible refine Blk.set2 (a := .slice none 0 0) (b := .slice none 0 0) ?_ _ _) | ((with_reducible refine Blk.far' ?_ ?_ _); rotate_left; omega) | (with_reducible refine Blk.alloc ?_ _) | (with_reducible refine Blk.drew ?_) | ((with_reducible refine Blk.below ?_ hb2 ?_); rotate_left; (focus first | (simp; done) | (simp; omega)))))
      · exact (by repeat (first | (with_reducible exact hB') | ((with_reducible refine Blk.new' _ _ ?_); first | rfl | (simp; done) | (simp; omega)) | (with_reducible refine Blk.set2 (a := .slice none 0 0) (b := .slice none 0 0) ?_ _ _) | ((with_reducible refine Blk.far' ?_ ?_ _); rotate_left; omega) | (with_reducible refine Blk.alloc ?_ _) | (with_reducible refine Blk.drew ?_) | ((with_reducible refine Blk.below ?_ hb2 ?_); rotate_left; (focus first | (simp; done) | (simp; omega)))))
      · exact (by repeat (first | (with_reducible exact hB') | ((with_reducible refine Blk.new' _ _ ?_); first | rfl | (simp; done) | (simp; omega)) | (with_reducible refine Blk.set2 (a := .slice none 0 0) (b := .slice none 0 0) ?_ _ _) | ((with_reducible refine Blk.far' ?_ ?_ _); rotate_left; omega) | (with_reducible refine Blk.alloc ?_ _) | (with_reducible refine Blk.drew ?_) | ((with_reducible refine Blk.below ?_ hb2 ?_); rotate_left; (focus first | (simp; done) | (simp; omega)))))
  case rest =>
    obtain ⟨G, a, g, rfl, rfl, rfl, hG1, ha1, hg1, hGg, hbG, hba, hbg, hbR, hlt⟩ := hcut
    have hx1 : wc.cell? ⟨w.heap.size, 1, none⟩ = some (.slice N n.nodes.length d) := hlt.cell x1
    have hcz : CpRow w1.heap.size wc g zc n.nodes 0 := CpRow.zero hbg
    have HbG := Lib.hid hbG
    have Hba := Lib.hid hba
    have Hbg := Lib.hid hbg
    have HbR := Lib.hid hbR
    have Hlt := Lib.hid hlt
    have Hcz := Lib.hid hcz
    clear hbG hba hbg hbR hlt hcz
    clear x0 x1 hmk
    go_wp2_with fail
    go_loopw [18] (fun i wx => ∃ k : Nat, k ≤ n.nodes.length ∧ i = .int .i64 (k : Int) ∧ CpRow w1.heap.size wx g zc n.nodes k ∧ Blk wx G 26 #[.slice (some ⟨a, 0, none⟩) n.inn.length n.inn.length, .slice (some ⟨g, 0, none⟩) n.nodes.length n.nodes.length] ∧ Blk wx a 3 (n.inn.map (Value.int .i64)).toArray ∧ Blk wx w1.heap.size 26 #[.slice none 0 0, .slice none 0 0] ∧ Later w1 wx) (fun i _ => n.nodes.length - (intOf i).toNat)
    case atStart => exact ⟨0, Nat.zero_le _, rfl, Hcz.out, HbG.out, Hba.out, HbR.out, Hlt.out⟩
    case round =>
      obtain ⟨k, hk, rfl, hcp, hbG, hba, hbR, hlw⟩ := hrel
      clear hx1 Hbg Hlt Hcz HbG Hba HbR
      by_cases hlt : k < n.nodes.length
      · obtain ⟨b, off, S, sc, J, ic, Q, qc, rfl, hNA, -, -, -⟩ := HR1.out.2.at_ hlt
        have hnok := Hok.out.2.2 _ (List.getElem_mem hlt)
        have hnext := fun (B : Nat) (W : World) (h : CpRow B W g zc n.nodes k) => h.next hlt Hzc.out
        have hNAw := hNA.below hlw
        generalize n.nodes[k] = v at *
        obtain ⟨⟨y0, y1, y2, y3, y4, y5, y6, y7, y8, y9⟩, -⟩ := hNAw
        have hkn := (Blk.new wr 46 #[.int .i64 v.op.kind, .int .i64 v.op.k, .int .i64 v.op.width, .int .i64 v.op.step, .int .i64 v.op.side, .int .i64 v.op.frm, .int .i64 v.op.to, .slice S v.op.s.length sc, .slice J v.ins.length ic, .slice Q v.p.length qc]).alloc (.cells #[.int .i64 v.op.kind, .int .i64 v.op.k, .int .i64 v.op.width, .int .i64 v.op.step, .int .i64 v.op.side, .int .i64 v.op.frm, .int .i64 v.op.to, .slice S v.op.s.length sc] 43)
        have hko := Blk.new (wr.alloc (.cells #[.int .i64 v.op.kind, .int .i64 v.op.k, .int .i64 v.op.width, .int .i64 v.op.step, .int .i64 v.op.side, .int .i64 v.op.frm, .int .i64 v.op.to, .slice S v.op.s.length sc, .slice J v.ins.length ic, .slice Q v.p.length qc] 46)) 43 #[.int .i64 v.op.kind, .int .i64 v.op.k, .int .i64 v.op.width, .int .i64 v.op.step, .int .i64 v.op.side, .int .i64 v.op.frm, .int .i64 v.op.to, .slice S v.op.s.length sc]
        have hl2 : Later wr ((wr.alloc (.cells #[.int .i64 v.op.kind, .int .i64 v.op.k, .int .i64 v.op.width, .int .i64 v.op.step, .int .i64 v.op.side, .int .i64 v.op.frm, .int .i64 v.op.to, .slice S v.op.s.length sc, .slice J v.ins.length ic, .slice Q v.p.length qc] 46)).alloc (.cells #[.int .i64 v.op.kind, .int .i64 v.op.k, .int .i64 v.op.width, .int .i64 v.op.step, .int .i64 v.op.side, .int .i64 v.op.frm, .int .i64 v.op.to, .slice S v.op.s.length sc] 43)) := ((Later.refl wr).alloc _).alloc _
        rw [World.size_alloc] at hko
        have hsz2 : ((wr.alloc (.cells #[.int .i64 v.op.kind, .int .i64 v.op.k, .int .i64 v.op.width, .int .i64 v.op.step, .int .i64 v.op.side, .int .i64 v.op.frm, .int .i64 v.op.to, .slice S v.op.s.length sc, .slice J v.ins.length ic, .slice Q v.p.length qc] 46)).alloc (.cells #[.int .i64 v.op.kind, .int .i64 v.op.k, .int .i64 v.op.width, .int .i64 v.op.step, .int .i64 v.op.side, .int .i64 v.op.frm, .int .i64 v.op.to, .slice S v.op.s.length sc] 43)).heap.size = wr.heap.size + 2 := by simp
        have Hcp0 := Lib.hid hcp
        have hsw := hlw.size
        have HNA := Lib.hid hNA
        have Hnok := Lib.hid hnok
        have Hcp := Lib.hid hcp
        have HbG := Lib.hid hbG
        have Hba := Lib.hid hba
        have HbR := Lib.hid hbR
        have Hlw := Lib.hid hlw
        have Hnext := Lib.hid hnext
        have Hkn := Lib.hid hkn
        have Hko := Lib.hid hko
        have Hl2 := Lib.hid hl2
        clear hNA hnok hcp hbG hba hbR hlw hnext hkn hko hl2
        go_wp2_with fail
        generalize (wr.alloc (.cells #[.int .i64 v.op.kind, .int .i64 v.op.k, .int .i64 v.op.width, .int .i64 v.op.step, .int .i64 v.op.side, .int .i64 v.op.frm, .int .i64 v.op.to, .slice S v.op.s.length sc, .slice J v.ins.length ic, .slice Q v.p.length qc] 46)).alloc (.cells #[.int .i64 v.op.kind, .int .i64 v.op.k, .int .i64 v.op.width, .int .i64 v.op.step, .int .i64 v.op.side, .int .i64 v.op.frm, .int .i64 v.op.to, .slice S v.op.s.length sc] 43) = W2 at *
        clear y0 y1 y2 y3 y4 y5 y6 y7 y8 y9
        have hlen := Hnok.out
        have hl1 := hlen.2.1
        have hl2 := hlen.2.2.1
        have hl3 := hlen.2.2.2.1
        refine (shape_copy S sc v.op.s _ (by omega) ((HNA.out.below (Hlw.out.trans Hl2.out)).2.1)).mono ?_
        rintro e w3 ⟨h, rfl, hh, hB, hb3⟩
        have hB : Blk w3 h 3 (v.op.s.map (Value.int .i64)).toArray := hB
        have hl3' : Later wr w3 := Hl2.out.call hb3
        have hkn3 := (show Later W2 w3 from hb3).blk Hkn.out
        have hko3 := (show Later W2 w3 from hb3).blk Hko.out
        have o7 := hko3.cell 7
        have fo7 := hko3.frozen 7
        simp at o7
        have hs3 := hb3.size
        have hko4 := hko3.set_ 7 (.slice (some ⟨h, 0, none⟩) v.op.s.length v.op.s.length)
        have hkn4 := hkn3.far (p := ⟨wr.heap.size + 1, 7, none⟩) (by simp) (.slice (some ⟨h, 0, none⟩) v.op.s.length v.op.s.length)
        have hB4 := hB.far (p := ⟨wr.heap.size + 1, 7, none⟩) (by simp; omega) (.slice (some ⟨h, 0, none⟩) v.op.s.length v.op.s.length)
        have hl4 : Later wr (w3.setCell ⟨wr.heap.size + 1, 7, none⟩ (.slice (some ⟨h, 0, none⟩) v.op.s.length v.op.s.length)) := hl3'.set (by simp) _
        have hcp4 := Hcp.out.later hl4
        have hbG4 := hl4.blk HbG.out
        have hba4 := hl4.blk Hba.out
        have hbR4 := hl4.blk HbR.out
        have hlw4 := Hlw.out.trans hl4
        have hNA4 := HNA.out.below hlw4
        have HB := Lib.hid hB
        have Hl3' := Lib.hid hl3'
        have Hkn3 := Lib.hid hkn3
        have Hko3 := Lib.hid hko3
        have Hko4 := Lib.hid hko4
        have Hkn4 := Lib.hid hkn4
        have HB4 := Lib.hid hB4
        have Hl4 := Lib.hid hl4
        have Hcp4 := Lib.hid hcp4
        have HbG4 := Lib.hid hbG4
        have Hba4 := Lib.hid hba4
        have HbR4 := Lib.hid hbR4
        have Hlw4 := Lib.hid hlw4
        have Hlen := Lib.hid hlen
        have HNA4 := Lib.hid hNA4
        clear hB hl3' hkn3 hko3 hko4 hkn4 hB4 hl4 hcp4 hbG4 hba4 hbR4 hlw4 hlen hNA4
        clear Hcp HbG Hba HbR Hlw Hkn Hko Hl2
        go_wp2_with fail
        go_upto_region 7 with fail
        generalize w3.setCell ⟨wr.heap.size + 1, 7, none⟩ (.slice (some ⟨h, 0, none⟩) v.op.s.length v.op.s.length) = W4 at *
        have u0 : W4.cell? ⟨G, 1, none⟩ = some (.slice (some ⟨g, 0, none⟩) n.nodes.length n.nodes.length) := by rw [HbG4.out.cell]; rfl
        have u1 : W4.cell? ⟨wr.heap.size + 1, 0, none⟩ = some (.int .i64 v.op.kind) := by rw [Hko4.out.cell]; rfl
        have u2 : W4.cell? ⟨wr.heap.size + 1, 1, none⟩ = some (.int .i64 v.op.k) := by rw [Hko4.out.cell]; rfl
        have u3 : W4.cell? ⟨wr.heap.size + 1, 2, none⟩ = some (.int .i64 v.op.width) := by rw [Hko4.out.cell]; rfl
        have u4 : W4.cell? ⟨wr.heap.size + 1, 3, none⟩ = some (.int .i64 v.op.step) := by rw [Hko4.out.cell]; rfl
        have u5 : W4.cell? ⟨wr.heap.size + 1, 4, none⟩ = some (.int .i64 v.op.side) := by rw [Hko4.out.cell]; rfl
        have u6 : W4.cell? ⟨wr.heap.size + 1, 5, none⟩ = some (.int .i64 v.op.frm) := by rw [Hko4.out.cell]; rfl
        have u7 : W4.cell? ⟨wr.heap.size + 1, 6, none⟩ = some (.int .i64 v.op.to) := by rw [Hko4.out.cell]; rfl
        have u8 : W4.cell? ⟨wr.heap.size + 1, 7, none⟩ = some (.slice (some ⟨h, 0, none⟩) v.op.s.length v.op.s.length) := by rw [Hko4.out.cell]; rfl
        have u9 : W4.cell? ⟨wr.heap.size, 8, none⟩ = some (.slice J v.ins.length ic) := by rw [Hkn4.out.cell]; rfl
        have u10 : W4.cell? ⟨wr.heap.size, 9, none⟩ = some (.slice Q v.p.length qc) := by rw [Hkn4.out.cell]; rfl
        have hglt : g < wr.heap.size := by obtain ⟨_, _, _, h, _⟩ := Hcp0.out; exact h.lt
        have hq1 : g ≠ G := fun e => hGg e.symm
        have hq2 : g ≠ wr.heap.size := by omega
        have hq3 : g ≠ wr.heap.size + 1 := by omega
        have k0 : (0 : Int) ≤ (k : Int) := by omega
        have k1 : (k : Int) < (n.nodes.length : Int) := by omega
        go_region_held3 (fun W => W.cell? ⟨G, 1, none⟩ = some (.slice (some ⟨g, 0, none⟩) n.nodes.length n.nodes.length) ∧ W.cell? ⟨wr.heap.size + 1, 0, none⟩ = some (.int .i64 v.op.kind) ∧ W.cell? ⟨wr.heap.size + 1, 1, none⟩ = some (.int .i64 v.op.k) ∧ W.cell? ⟨wr.heap.size + 1, 2, none⟩ = some (.int .i64 v.op.width) ∧ W.cell? ⟨wr.heap.size + 1, 3, none⟩ = some (.int .i64 v.op.step) ∧ W.cell? ⟨wr.heap.size + 1, 4, none⟩ = some (.int .i64 v.op.side) ∧ W.cell? ⟨wr.heap.size + 1, 5, none⟩ = some (.int .i64 v.op.frm) ∧ W.cell? ⟨wr.heap.size + 1, 6, none⟩ = some (.int .i64 v.op.to) ∧ W.cell? ⟨wr.heap.size + 1, 7, none⟩ = some (.slice (some ⟨h, 0, none⟩) v.op.s.length v.op.s.length) ∧ W.cell? ⟨wr.heap.size, 8, none⟩ = some (.slice J v.ins.length ic) ∧ W.cell? ⟨wr.heap.size, 9, none⟩ = some (.slice Q v.p.length qc)) (first | (refine ⟨?_, ?_, ?_, ?_, ?_, ?_, ?_, ?_, ?_, ?_, ?_⟩; (· simp only [World.cell?_setCell_far, hq1, hq2, hq3, ne_eq, not_false_eq_true]; first | exact Later.cell HL6.out u0 | exact Later.cell HL5.out u0); (· simp only [World.cell?_setCell_far, hq1, hq2, hq3, ne_eq, not_false_eq_true]; first | exact Later.cell HL6.out u1 | exact Later.cell HL5.out u1); (· simp only [World.cell?_setCell_far, hq1, hq2, hq3, ne_eq, not_false_eq_true]; first | exact Later.cell HL6.out u2 | exact Later.cell HL5.out u2); (· simp only [World.cell?_setCell_far, hq1, hq2, hq3, ne_eq, not_false_eq_true]; first | exact Later.cell HL6.out u3 | exact Later.cell HL5.out u3); (· simp only [World.cell?_setCell_far, hq1, hq2, hq3, ne_eq, not_false_eq_true]; first | exact Later.cell HL6.out u4 | exact Later.cell HL5.out u4); (· simp only [World.cell?_setCell_far, hq1, hq2, hq3, ne_eq, not_false_eq_true]; first | exact Later.cell HL6.out u5 | exact Later.cell HL5.out u5); (· simp only [World.cell?_setCell_far, hq1, hq2, hq3, ne_eq, not_false_eq_true]; first | exact Later.cell HL6.out u6 | exact Later.cell HL5.out u6); (· simp only [World.cell?_setCell_far, hq1, hq2, hq3, ne_eq, not_false_eq_true]; first | exact Later.cell HL6.out u7 | exact Later.cell HL5.out u7); (· simp only [World.cell?_setCell_far, hq1, hq2, hq3, ne_eq, not_false_eq_true]; first | exact Later.cell HL6.out u8 | exact Later.cell HL5.out u8); (· simp only [World.cell?_setCell_far, hq1, hq2, hq3, ne_eq, not_false_eq_true]; first | exact Later.cell HL6.out u9 | exact Later.cell HL5.out u9); (· simp only [World.cell?_setCell_far, hq1, hq2, hq3, ne_eq, not_false_eq_true]; first | exact Later.cell HL6.out u10 | exact Later.cell HL5.out u10)) | (with_reducible exact ⟨u0, u1, u2, u3, u4, u5, u6, u7, u8, u9, u10⟩) | exact ⟨Later.cell (show Later W4 _ by repeat (first | (with_reducible exact Later.refl _) | (with_reducible apply Later.drew) | (with_reducible apply Later.alloc) | (with_reducible refine Later.call ?_ (by assumption)))) u0, Later.cell (show Later W4 _ by repeat (first | (with_reducible exact Later.refl _) | (with_reducible apply Later.drew) | (with_reducible apply Later.alloc) | (with_reducible refine Later.call ?_ (by assumption)))) u1, Later.cell (show Later W4 _ by repeat (first | (with_reducible exact Later.refl _) | (with_reducible apply Later.drew) | (with_reducible apply Later.alloc) | (with_reducible refine Later.call ?_ (by assumption)))) u2, Later.cell (show Later W4 _ by repeat (first | (with_reducible exact Later.refl _) | (with_reducible apply Later.drew) | (with_reducible apply Later.alloc) | (with_reducible refine Later.call ?_ (by assumption)))) u3, Later.cell (show Later W4 _ by repeat (first | (with_reducible exact Later.refl _) | (with_reducible apply Later.drew) | (with_reducible apply Later.alloc) | (with_reducible refine Later.call ?_ (by assumption)))) u4, Later.cell (show Later W4 _ by repeat (first | (with_reducible exact Later.refl _) | (with_reducible apply Later.drew) | (with_reducible apply Later.alloc) | (with_reducible refine Later.call ?_ (by assumption)))) u5, Later.cell (show Later W4 _ by repeat (first | (with_reducible exact Later.refl _) | (with_reducible apply Later.drew) | (with_reducible apply Later.alloc) | (with_reducible refine Later.call ?_ (by assumption)))) u6, Later.cell (show Later W4 _ by repeat (first | (with_reducible exact Later.refl _) | (with_reducible apply Later.drew) | (with_reducible apply Later.alloc) | (with_reducible refine Later.call ?_ (by assumption)))) u7, Later.cell (show Later W4 _ by repeat (first | (with_reducible exact Later.refl _) | (with_reducible apply Later.drew) | (with_reducible apply Later.alloc) | (with_reducible refine Later.call ?_ (by assumption)))) u8, Later.cell (show Later W4 _ by repeat (first | (with_reducible exact Later.refl _) | (with_reducible apply Later.drew) | (with_reducible apply Later.alloc) | (with_reducible refine Later.call ?_ (by assumption)))) u9, Later.cell (show Later W4 _ by repeat (first | (with_reducible exact Later.refl _) | (with_reducible apply Later.drew) | (with_reducible apply Later.alloc) | (with_reducible refine Later.call ?_ (by assumption)))) u10⟩)
          (first
          | (go_at_call 43; refine (clone_ints J ic v.ins _ hl2 (HNA4.out.2.2.1.below (show Later W4 _ by repeat (first | (with_reducible exact Later.refl _) | (with_reducible apply Later.drew) | (with_reducible apply Later.alloc) | (with_reducible refine Later.call ?_ (by assumption)))) (Nat.le_refl _))).mono ?_; rintro e w5 ⟨J', jc', rfl, hJ5, hb5⟩; have HL5 := Lib.hid (show Later W4 w5 by repeat (first | (with_reducible exact Later.refl _) | (with_reducible apply Later.drew) | (with_reducible apply Later.alloc) | (with_reducible refine Later.call ?_ (by assumption)))); obtain ⟨⟨z0, z1, z2, z3, z4, z5, z6, z7, z8, z9, d0, d1, d2, d3, d4, d5, d6, d7, d8, d9⟩, hfz, hput⟩ := Hnext.out _ w5 (Hcp4.out.later (show Later W4 w5 by repeat (first | (with_reducible exact Later.refl _) | (with_reducible apply Later.drew) | (with_reducible apply Later.alloc) | (with_reducible refine Later.call ?_ (by assumption))))); have Hput := Lib.hid hput; clear hput; have fz0 := hfz (k * 10); have fz1 := hfz (k * 10 + 1); have fz2 := hfz (k * 10 + 2); have fz3 := hfz (k * 10 + 3); have fz4 := hfz (k * 10 + 4); have fz5 := hfz (k * 10 + 5); have fz6 := hfz (k * 10 + 6); have fz7 := hfz (k * 10 + 7); have fz8 := hfz (k * 10 + 8); have fz9 := hfz (k * 10 + 9))
          | (go_at_call 44; refine (net_copies Q qc v.p _ hl3 Hlen.out.2.2.2.2.1 (HNA4.out.2.2.2.below (show Later W4 _ by repeat (first | (with_reducible exact Later.refl _) | (with_reducible apply Later.drew) | (with_reducible apply Later.alloc) | (with_reducible refine Later.call ?_ (by assumption)))) (Nat.le_refl _))).mono ?_; rintro e w6 ⟨q', rfl, hF6, hb6⟩; have HL6 := Lib.hid (show Later W4 w6 by repeat (first | (with_reducible exact Later.refl _) | (with_reducible apply Later.drew) | (with_reducible apply Later.alloc) | (with_reducible refine Later.call ?_ (by assumption)))); obtain ⟨⟨z0, z1, z2, z3, z4, z5, z6, z7, z8, z9, d0, d1, d2, d3, d4, d5, d6, d7, d8, d9⟩, hfz, hput⟩ := Hnext.out _ w6 (Hcp4.out.later (show Later W4 w6 by repeat (first | (with_reducible exact Later.refl _) | (with_reducible apply Later.drew) | (with_reducible apply Later.alloc) | (with_reducible refine Later.call ?_ (by assumption))))); have Hput := Lib.hid hput; clear hput; have fz0 := hfz (k * 10); have fz1 := hfz (k * 10 + 1); have fz2 := hfz (k * 10 + 2); have fz3 := hfz (k * 10 + 3); have fz4 := hfz (k * 10 + 4); have fz5 := hfz (k * 10 + 5); have fz6 := hfz (k * 10 + 6); have fz7 := hfz (k * 10 + 7); have fz8 := hfz (k * 10 + 8); have fz9 := hfz (k * 10 + 9)))
        all_goals
          have HF6 := Lib.hid hF6
          have HJ5 := Lib.hid hJ5
          clear hF6 hJ5
          clear u0 u1 u2 u3 u4 u5 u6 u7 u8 u9 u10 d0 d1 d2 d3 d4 d5 d6 d7 d8 d9 hfz fz0 fz1 fz2 fz3 fz4 fz5 fz6 fz7 fz8 fz9
          go_wp2_with fail
          go_roundw
          case rel =>
            have s1 := Hlw4.out.size
            have s5 := HL5.out.size
            have s6 := HL6.out.size
            first
            | (obtain ⟨q1, q2, q3, q4, q5⟩ := copy_step Hput.out (h := h) (J := J') (jc := jc') (q := q') ⟨(show w1.heap.size ≤ h by omega), (HL6.out.blk HB4.out), ownsRow_low (ownsRow_keep (T := 46) HJ5.out (by decide) (Keep.of_later (show Later w5 w6 by repeat (first | (with_reducible exact Later.refl _) | (with_reducible apply Later.drew) | (with_reducible apply Later.alloc) | (with_reducible refine Later.call ?_ (by assumption)))))) (by first | omega | (simp; omega)), (HF6.out.keep (T := 46) (by decide) (by decide) (Keep.of_later (show Later w6 w6 by repeat (first | (with_reducible exact Later.refl _) | (with_reducible apply Later.drew) | (with_reducible apply Later.alloc) | (with_reducible refine Later.call ?_ (by assumption)))))).base (by first | omega | (simp; omega))⟩ (HL6.out.blk HbG4.out) (HL6.out.blk Hba4.out) (HL6.out.blk HbR4.out) (Hlw4.out.trans HL6.out) (by omega); exact ⟨k + 1, by omega, by go_num, q1, q2, q3, q4, q5⟩)
            | (obtain ⟨q1, q2, q3, q4, q5⟩ := copy_step Hput.out (h := h) (J := J') (jc := jc') (q := q') ⟨(show w1.heap.size ≤ h by omega), (HL5.out.blk HB4.out), ownsRow_low (ownsRow_keep (T := 46) HJ5.out (by decide) (Keep.of_later (show Later w5 w5 by repeat (first | (with_reducible exact Later.refl _) | (with_reducible apply Later.drew) | (with_reducible apply Later.alloc) | (with_reducible refine Later.call ?_ (by assumption)))))) (by first | omega | (simp; omega)), (HF6.out.keep (T := 46) (by decide) (by decide) (Keep.of_later (show Later w6 w5 by repeat (first | (with_reducible exact Later.refl _) | (with_reducible apply Later.drew) | (with_reducible apply Later.alloc) | (with_reducible refine Later.call ?_ (by assumption)))))).base (by first | omega | (simp; omega))⟩ (HL5.out.blk HbG4.out) (HL5.out.blk Hba4.out) (HL5.out.blk HbR4.out) (Hlw4.out.trans HL5.out) (by omega); exact ⟨k + 1, by omega, by go_num, q1, q2, q3, q4, q5⟩)
          case measure => simp [intOf]; omega
      · obtain rfl : k = n.nodes.length := by omega
        have g0 := hbG.cell 0
        have g1 := hbG.cell 1
        have f0 := hbR.frozen 0
        have f1 := hbR.frozen 1
        have r0 := hbR.cell 0
        have r1 := hbR.cell 1
        simp at g0 g1 r0 r1
        have er : w1.heap.size = w.heap.size + 1 := Her.out
        rw [er] at f0 f1 r0 r1
        have hkp : Keep 26 wr ((wr.setCell ⟨w.heap.size + 1, 0, none⟩ (.slice (some ⟨a, 0, none⟩) n.inn.length n.inn.length)).setCell ⟨w.heap.size + 1, 1, none⟩ (.slice (some ⟨g, 0, none⟩) n.nodes.length n.nodes.length)) := by
          rw [er] at hbR
          exact (Keep.set_ hbR 0 _).trans (Keep.set_ (hbR.set_ 0 _) 1 _)
        have hba2 := hba.keep (by decide) hkp
        have hcp2 : CpRow w1.heap.size ((wr.setCell ⟨w.heap.size + 1, 0, none⟩ (.slice (some ⟨a, 0, none⟩) n.inn.length n.inn.length)).setCell ⟨w.heap.size + 1, 1, none⟩ (.slice (some ⟨g, 0, none⟩) n.nodes.length n.nodes.length)) g zc n.nodes n.nodes.length := hcp.keep (by decide) (by decide) (by decide) hkp
        have hb5 := (hb0.trans (Below.mono hlw hb0.size)).setCell (p := ⟨w.heap.size + 1, 0, none⟩) (Nat.le_succ _) (.slice (some ⟨a, 0, none⟩) n.inn.length n.inn.length) |>.setCell (p := ⟨w.heap.size + 1, 1, none⟩) (Nat.le_succ _) (.slice (some ⟨g, 0, none⟩) n.nodes.length n.nodes.length)
        have hbR2 : Blk ((wr.setCell ⟨w.heap.size + 1, 0, none⟩ (.slice (some ⟨a, 0, none⟩) n.inn.length n.inn.length)).setCell ⟨w.heap.size + 1, 1, none⟩ (.slice (some ⟨g, 0, none⟩) n.nodes.length n.nodes.length)) (w.heap.size + 1) 26 #[.slice (some ⟨a, 0, none⟩) n.inn.length n.inn.length, .slice (some ⟨g, 0, none⟩) n.nodes.length n.nodes.length] := by rw [er] at hbR; exact hbR.set2 _ _
        have c0 := hbR2.cell 0
        have c1 := hbR2.cell 1
        simp at c0 c1
        clear er
        have Hcp := Lib.hid hcp
        have HbG := Lib.hid hbG
        have Hba := Lib.hid hba
        have HbR := Lib.hid hbR
        have Hlw := Lib.hid hlw
        have Hkp := Lib.hid hkp
        have Hba2 := Lib.hid hba2
        have Hcp2 := Lib.hid hcp2
        have Hb5 := Lib.hid hb5
        have HbR2 := Lib.hid hbR2
        clear hcp hbG hba hbR hlw hkp hba2 hcp2 hb5 hbR2
        go_wp2_with fail
        refine bodyPost_ret (v := .agg #[.slice (some ⟨a, 0, none⟩) n.inn.length n.inn.length, .slice (some ⟨g, 0, none⟩) n.nodes.length n.nodes.length]) (by simp [results, Try.results17, go_sem, c0, c1]) rfl ?_
        refine ⟨⟨a, g, zc, rfl, by omega, by omega, Hba2.out, ?_⟩, Hb5.out⟩
        obtain ⟨L, l1, l2, l3, l4⟩ := Hcp2.out
        exact ⟨L, l1, l2, l3, fun x hx => (l4 x hx).base (by omega)⟩
end Go.Proofs.Ytjkhpbngpceenaa
