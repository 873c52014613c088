/- Lemmas for the statements of this seat: contracts of functions and the plain laws. -/
import Derived.Deep.DeepCutAuto
import Derived.Deep.RegionHeld3
import Derived.Lib.SliceRun
import Derived.Test.YtkmhagjdafeebaaGreatZ08
set_option linter.unusedVariables false
/- clear of a row of the call's own. No program is named here. -/
namespace Go.Proofs.YtkmhagjdafeebaaGreat
open Go.RowKit
/-- All blocks but one are as they were. -/
def Else (g : Nat) (w w' : World) : Prop := (∀ k, k ≠ g → w'.heap[k]? = w.heap[k]?) ∧ w'.heap.size = w.heap.size ∧ Below g w w'
theorem Else.blk {g k : Nat} {w w' : World} {t : TypeId} {cs : Array Value} (h : Else g w w') (hk : k ≠ g) (hb : Blk w k t cs) : Blk w' k t cs := (h.1 k hk).trans hb
theorem Else.below {g B : Nat} {w0 w w' : World} (h : Else g w w') (hb : Below B w0 w) (hB : B ≤ g) : Below B w0 w' := hb.trans (h.2.2.mono hB)
theorem Else.refl (g : Nat) (w : World) : Else g w w := ⟨fun _ _ => rfl, rfl, Below.refl _ _⟩
theorem Else.setCell {g : Nat} {w w' : World} (h : Else g w w') (i : Nat) (u : Value) : Else g w (w'.setCell ⟨g, i, none⟩ u) :=
  ⟨fun k hk => (Below.heap_setCell w' ⟨g, i, none⟩ u k hk).trans (h.1 k hk), by simpa using h.2.1, h.2.2.trans (Below.setCell (Below.refl g w') (p := ⟨g, i, none⟩) (Nat.le_refl _) u)⟩
theorem Else.setCells {g : Nat} {w : World} : ∀ (vs : List Value) (o : Nat) (w' : World), Else g w w' → Else g w (w'.setCells g o vs)
  | [], _, _, h => h
  | v :: r, o, w', h => Else.setCells r (o + 1) _ (h.setCell o v)
theorem run_clear_blk {P : Program} (w : World) (t e ty : TypeId) (ht : P.underlying t = some (.slice e)) (hv : ∀ w, (zeroValue e).run P w = .ok (.int .i64 0) w) (g : Nat) (T : TypeId) (l : List Int) (c : Nat) (hk : Blk w g T (l.map (Value.int .i64)).toArray) (h0 : 0 < l.length) :
    ∃ w', (Builtin.clear_ #[t] ty #[.slice (some ⟨g, 0, none⟩) l.length c]).run P w = .ok (.tuple #[]) w' ∧ Blk w' g T ((Ly.zeros l.length).map (Value.int .i64)).toArray ∧ Else g w w' := by
  refine ⟨_, Lib.run_clear_slice w t e ty (.int .i64 0) ht hv rfl rfl g 0 l.length c h0 (fun j hj => by rw [Nat.zero_add, hk.cell]; simp [hj]) (fun j hj => hk.frozen _), ?_, Else.setCells _ _ _ (Else.refl g w)⟩
  have := setCells_blk (List.replicate l.length (Value.int .i64 0)) 0 w _ hk (by simp)
  rw [show splice (l.map (Value.int .i64)) 0 (List.replicate l.length (Value.int .i64 0)) = (Ly.zeros l.length).map (Value.int .i64) by simp [splice, Ly.zeros]] at this
  exact this
theorem wpList_clear {P : Program} {ops : Array Oper} {rest : List Oper} {o : Oper} {a : Act} {Q : Exit → Act → World → Prop} {w : World} (hgd : o.guard = none) (s : Operand) (t e : TypeId)
    (ho : o.op = .call { callee := .builtin .clear, args := #[s], argTypes := #[t] }) (ht : P.underlying t = some (.slice e)) (hv : ∀ w, (zeroValue e).run P w = .ok (.int .i64 0) w)
    (g : Nat) (T : TypeId) (l : List Int) (c : Nat) (hs : a.eval s = .slice (some ⟨g, 0, none⟩) l.length c) (hk : Blk w g T (l.map (Value.int .i64)).toArray) (h0 : 0 < l.length)
    (h : ∀ w', Blk w' g T ((Ly.zeros l.length).map (Value.int .i64)).toArray → Else g w w' → wpList P ops Q rest (a.put o.dst (.tuple #[])) w') :
    wpList P ops Q (o :: rest) a w := by
  refine wpList_plain hgd fun K hK => ?_
  obtain ⟨w', hr, h1, h2⟩ := run_clear_blk w t e o.type ht hv g T l c hk h0
  unfold Oper.wp execOp
  simp only [ho, resolve, invoke, builtin, Sem.run_bind, Sem.run_pure, Result.andThen_ok, List.map_toArray, List.map_cons, List.map_nil, hs, hr]
  exact hK _ _ (h w' h1 h2)
end Go.Proofs.YtkmhagjdafeebaaGreat
/- Layer 24 (optim): Begin of right parameters: contract. -/
namespace Go.Proofs.YtkmhagjdafeebaaGreat
open Go.RowKit
def zeroT (t : Ten) : Ten := ⟨t.s, Ly.zeros t.c.length⟩
theorem cells_set {L : List TenA} {k : Nat} {x : TenA} (hk : k < L.length) (hx : x.cells = L[k].cells) : (L.set k x).flatMap TenA.cells = L.flatMap TenA.cells := by
  induction L generalizing k with
  | nil => simp at hk
  | cons y r ih =>
    match k with
    | 0 => simp at hx; simp [hx]
    | k + 1 => simp at hk hx; simp [ih hk hx]
theorem begin_step {N : List TenA} {ts : List Ten} {k : Nat} (hk : k < ts.length) (hN : N.map (·.1) = (ts.take k).map zeroT ++ ts.drop k) (hnd : (N.map (·.2.2)).Nodup) :
    ∃ (g1 g2 : Nat) (N2 : List TenA), (ts[k], g1, g2) ∈ N ∧ (N.flatMap TenA.cells)[k * 2]? = some (.slice (some ⟨g1, 0, none⟩) ts[k].s.length ts[k].s.length) ∧ (N.flatMap TenA.cells)[k * 2 + 1]? = some (.slice (some ⟨g2, 0, none⟩) ts[k].c.length ts[k].c.length) ∧
      N2.map (·.1) = (ts.take (k + 1)).map zeroT ++ ts.drop (k + 1) ∧ (N2.map (·.2.2)).Nodup ∧ N2.flatMap TenA.cells = N.flatMap TenA.cells ∧ ∀ x ∈ N2, x = (zeroT ts[k], g1, g2) ∨ (x ∈ N ∧ x.2.2 ≠ g2) := by
  have hNl : N.length = ts.length := by have := congrArg List.length hN; simp at this; omega
  have hkN : k < N.length := by omega
  obtain ⟨c0, c1⟩ := cells_at N k hkN
  have hxk : N[k].1 = ts[k] := by
    have e1 : (N.map (·.1))[k]? = ((ts.take k).map zeroT ++ ts.drop k)[k]? := by rw [hN]
    rw [List.getElem?_append_right (by simp; omega), List.getElem?_map, List.getElem?_eq_getElem hkN] at e1
    simpa [Nat.min_eq_left (Nat.le_of_lt hk), hk] using e1
  have hce : TenA.cells (zeroT ts[k], N[k].2.1, N[k].2.2) = N[k].cells := by simp [TenA.cells, zeroT, hxk, Ly.zeros]
  refine ⟨N[k].2.1, N[k].2.2, N.set k (zeroT ts[k], N[k].2.1, N[k].2.2), by rw [← hxk]; exact List.getElem_mem hkN, by rw [← hxk]; exact c0, by rw [← hxk]; exact c1, ?_, ?_, cells_set hkN hce, fun x hx => ?_⟩
  · rw [List.map_set, hN, List.set_append_right _ _ (by simp; omega), List.take_succ_eq_append_getElem hk, List.map_append, List.append_assoc]
    congr 1
    rw [List.length_map, List.length_take, Nat.min_eq_left (Nat.le_of_lt hk), Nat.sub_self, List.drop_eq_getElem_cons hk, List.set_cons_zero]
    rfl
  · rw [List.map_set, show (zeroT ts[k], N[k].2.1, N[k].2.2).2.2 = (N.map (·.2.2))[k]'(by simpa using hkN) by simp, List.set_getElem_self]
    exact hnd
  · obtain ⟨j, hj, rfl⟩ := List.getElem_of_mem hx
    rw [List.length_set] at hj
    by_cases e : k = j
    · subst e; left; simp
    · right
      rw [List.getElem_set_ne e]
      refine ⟨List.getElem_mem hj, fun h => ?_⟩
      have hp := List.pairwise_iff_getElem.1 hnd
      rcases Nat.lt_or_gt_of_ne e with q | q
      · exact hp k j (by simpa using hkN) (by simpa using hj) q (by simpa using h.symm)
      · exact hp j k (by simpa using hj) (by simpa using hkN) q (by simpa using h)
def BegP (ts : List Ten) (w : World) (e : Ending) (w' : World) : Prop :=
  ∃ G L H M, e = .returned (.tuple #[.agg #[.slice (some ⟨G, 0, none⟩) ts.length ts.length, .slice (some ⟨H, 0, none⟩) ts.length ts.length], .int .i64 0]) ∧ L.map (·.1) = ts ∧ M.map (·.1) = ts.map zeroT ∧ CpsR w.heap.size G L w' ∧ CpsR w.heap.size H M w' ∧ Below w.heap.size w w'
set_option maxHeartbeats 8000000 in
set_option maxRecDepth 20000 in
theorem optim_begin (A : Option Addr) (c : Nat) (ts : List Ten) (w : World) (hl : ts.length ≤ 1000000) (hs : Tn.small ts) (hT : Tens w A ts) (hr : ts.all Tn.right = true) :
    Calls Tryz.prog 24 #[.slice A ts.length c] w (BegP ts w) := by
  have hz0 := Blk.new w 29 #[.slice none 0 0, .slice none 0 0]
  have h00 := (Later.refl w).alloc (.cells #[.slice none 0 0, .slice none 0 0] 29)
  have hs0 : (w.alloc (.cells #[.slice none 0 0, .slice none 0 0] 29)).heap.size = w.heap.size + 1 := by simp
  have hpos : ∀ t ∈ ts, 0 < t.c.length := fun t ht => by
    have := List.all_eq_true.1 hr t ht
    simp only [Tn.right, Bool.and_eq_true, decide_eq_true_eq] at this
    have h2 := (Sh.right_mul this.1).2.2.2.2.1
    omega
  have Hs := Lib.hid hs
  have HT := Lib.hid hT
  have Hr := Lib.hid hr
  have Hz0 := Lib.hid hz0
  have H00 := Lib.hid h00
  have Hpos := Lib.hid hpos
  clear hs hT hr hz0 h00 hpos
  go_enter Tryz.func24, Tryz.ntmps24
  go_upto_region 1 with fail
  generalize w.alloc (.cells #[.slice none 0 0, .slice none 0 0] 29) = w0 at *
  go_wp2_with fail
  refine (optim_valid A c ts _ (by omega) (HT.out.below H00.out (Nat.le_refl _))).mono ?_
  rintro e w1 ⟨rfl, h1⟩
  have h01 : Later w0 w1 := h1
  rw [Hr.out]
  clear h1
  have H01 := Lib.hid h01
  clear h01
  go_wp2_with fail
  refine (optim_copies A c ts w1 hl Hs.out (HT.out.below (H00.out.trans H01.out) (Nat.le_refl _))).mono ?_
  rintro e w2 ⟨G, L, rfl, hL, -, hG, h2⟩
  have h12 : Later w1 w2 := h2
  have h02 := H01.out.trans h12
  have HL := Lib.hid hL
  have HG := Lib.hid hG
  have H12 := Lib.hid h12
  have H02 := Lib.hid h02
  clear hL hG h12 h02
  clear h2
  go_wp2_with fail
  refine (optim_copies A c ts w2 hl Hs.out (HT.out.below (H00.out.trans H02.out) (Nat.le_refl _))).mono ?_
  rintro e w3 ⟨H, M, rfl, hM, hnd, hH, h3⟩
  have h23 : Later w2 w3 := h3
  clear h3
  have hk4 := Blk.new w3 29 #[.slice (some ⟨G, 0, none⟩) ts.length ts.length, .slice (some ⟨H, 0, none⟩) ts.length ts.length]
  have h34 := (Later.refl w3).alloc (.cells #[.slice (some ⟨G, 0, none⟩) ts.length ts.length, .slice (some ⟨H, 0, none⟩) ts.length ts.length] 29)
  have hs1 := H01.out.size
  have hs2 := H12.out.size
  have hs3 := h23.size
  have h24 := h23.trans h34
  have hH4 := hH.later h34
  have HM := Lib.hid hM
  have Hnd := Lib.hid hnd
  have Hk4 := Lib.hid hk4
  have H24 := Lib.hid h24
  have HH4 := Lib.hid hH4
  clear hM hnd hk4 h24 hH4
  clear hH h23 h34
  go_upto_region 4 with fail
  show Code.wp _ _ _ _ (w3.alloc (.cells #[.slice (some ⟨G, 0, none⟩) ts.length ts.length, .slice (some ⟨H, 0, none⟩) ts.length ts.length] 29))
  generalize w3.alloc (.cells #[.slice (some ⟨G, 0, none⟩) ts.length ts.length, .slice (some ⟨H, 0, none⟩) ts.length ts.length] 29) = w4 at *
  have b0 := Hk4.out.cell 0
  have b1 := Hk4.out.cell 1
  simp at b0 b1
  go_wp2_with fail
  go_loopw [19] (fun i wx => ∃ (k : Nat) (N : List TenA), k ≤ ts.length ∧ i = .int .i64 (k : Int) ∧ N.map (·.1) = (ts.take k).map zeroT ++ ts.drop k ∧ (N.map (·.2.2)).Nodup ∧ CpsR w2.heap.size H N wx ∧ Blk wx w3.heap.size 29 #[.slice (some ⟨G, 0, none⟩) ts.length ts.length, .slice (some ⟨H, 0, none⟩) ts.length ts.length] ∧ Below w2.heap.size w2 wx) (fun i _ => ts.length - (intOf i).toNat)
  case atStart => exact ⟨0, M, Nat.zero_le _, rfl, by simpa using HM.out, Hnd.out, HH4.out, Hk4.out, H24.out⟩
  case round =>
    clear HM Hnd HH4 Hk4 H24 b0 b1
    obtain ⟨k, N, hk, rfl, hN, hnd, hC, hk4, hbel⟩ := hrel
    by_cases hlt : k < ts.length
    · obtain ⟨g1, g2, N2, hmem, c0, c1, hN2, hnd2, hcs, hother⟩ := begin_step hlt hN hnd
      have hps := Hpos.out ts[k] (List.getElem_mem hlt)
      obtain ⟨hok1, hok2⟩ := hC.ok _ hmem
      obtain ⟨hlow1, hlow2⟩ := hC.low _ hmem
      simp only at hok1 hok2 hlow1 hlow2
      have q0 : wr.cell? ⟨H, k * 2, none⟩ = some (.slice (some ⟨g1, 0, none⟩) ts[k].s.length ts[k].s.length) := by rw [hC.row.cell]; simpa using c0
      have q1 : wr.cell? ⟨H, k * 2 + 1, none⟩ = some (.slice (some ⟨g2, 0, none⟩) ts[k].c.length ts[k].c.length) := by rw [hC.row.cell]; simpa using c1
      generalize ts[k] = t at *
      have r1 : (k : Int) < (ts.length : Int) := by omega
      have hla := (Later.refl wr).alloc (.cells #[.slice (some ⟨g1, 0, none⟩) t.s.length t.s.length, .slice (some ⟨g2, 0, none⟩) t.c.length t.c.length] 26)
      have hC5 := hC.later hla
      have hg25 := hla.blk hok2
      have hk45 := hla.blk hk4
      have hb5 := hbel.trans (hla.mono hbel.size)
      have HN := Lib.hid hN
      have Hnd := Lib.hid hnd
      have HC5 := Lib.hid hC5
      have Hk45 := Lib.hid hk45
      have Hg25 := Lib.hid hg25
      have HN2 := Lib.hid hN2
      have Hnd2 := Lib.hid hnd2
      have Hcs := Lib.hid hcs
      have Hother := Lib.hid hother
      have Hb5 := Lib.hid hb5
      clear hN hnd hC5 hk45 hg25 hN2 hnd2 hcs hother hb5
      clear hok1 hok2 hC hk4 hbel hla c0 c1
      go_wp2_with (refine wpList_clear rfl (.tmp 24) 24 37 rfl Tryz.underlying24 Tryz.zeroValue37 g2 37 t.c t.c.length rfl Hg25.out hps ?_)
      intro w6 hz6 hE6
      have hb6 := hE6.below Hb5.out hlow2
      have hk46 := hE6.blk (fun e => by have h1 := Hk45.out; have h2 := Hg25.out; rw [e] at h1; have h3 := h1.symm.trans h2; simp at h3) Hk45.out
      have hC6 : CpsR w2.heap.size H N2 w6 := by
        refine ⟨HC5.out.base, ?_, fun x hx => ?_, fun x hx => ?_⟩
        · rw [Hcs.out]
          exact hE6.blk (fun e => by have h1 := HC5.out.row; have h2 := Hg25.out; rw [e] at h1; have h3 := h1.symm.trans h2; simp at h3) HC5.out.row
        · rcases Hother.out x hx with rfl | ⟨hx, hne⟩
          · exact ⟨hE6.blk (fun e => by have h1 := (HC5.out.ok _ hmem).1; have h2 := Hg25.out; rw [e] at h1; have h3 := h1.symm.trans h2; simp at h3) (HC5.out.ok _ hmem).1, hz6⟩
          · obtain ⟨o1, o2⟩ := HC5.out.ok x hx
            exact ⟨hE6.blk (fun e => by have h2 := Hg25.out; rw [e] at o1; have h3 := o1.symm.trans h2; simp at h3) o1, hE6.blk hne o2⟩
        · rcases Hother.out x hx with rfl | ⟨hx, hne⟩
          · exact HC5.out.low (t, g1, g2) hmem
          · exact HC5.out.low x hx
      have Hb6 := Lib.hid hb6
      have Hk46 := Lib.hid hk46
      have HC6 := Lib.hid hC6
      clear hb6 hk46 hC6
      clear hz6 hE6
      go_wp2_with fail
      go_roundw
      case rel => exact ⟨k + 1, N2, by omega, by go_num, HN2.out, Hnd2.out, HC6.out, Hk46.out, Hb6.out⟩
      case measure => simp [intOf]; omega
    · obtain rfl : k = ts.length := by omega
      rw [List.take_length, List.drop_length, List.append_nil] at hN
      have b0 := hk4.cell 0
      have b1 := hk4.cell 1
      simp at b0 b1
      have hsz := hbel.size
      have hz6 := (H00.out.trans H02.out)
      obtain ⟨z0, z1, y0, y1⟩ := two_cells ((show Blk wr w.heap.size 29 #[.slice none 0 0, .slice none 0 0] from (H02.out.blk Hz0.out).below hbel (by omega)))
      have hG6 := (HG.out.on wr fun b hb => hbel.block b hb.2).base_ (show w.heap.size + 1 ≤ w1.heap.size by omega)
      have hH6 := hC.base_ (show w.heap.size + 1 ≤ w2.heap.size by omega)
      have hl6 : Below w.heap.size w wr := hz6.trans (hbel.mono (by omega))
      have HR := Lib.hid (show BegP ts w (.returned (.tuple #[.agg #[.slice (some ⟨G, 0, none⟩) ts.length ts.length, .slice (some ⟨H, 0, none⟩) ts.length ts.length], .int .i64 0])) ((wr.setCell ⟨w.heap.size, 0, none⟩ (.slice (some ⟨G, 0, none⟩) ts.length ts.length)).setCell ⟨w.heap.size, 1, none⟩ (.slice (some ⟨H, 0, none⟩) ts.length ts.length)) from ⟨G, L, H, N, rfl, HL.out, hN, ((hG6.far (p := ⟨w.heap.size, 0, none⟩) (by simp) _).far (p := ⟨w.heap.size, 1, none⟩) (by simp) _).base_ (by omega), ((hH6.far (p := ⟨w.heap.size, 0, none⟩) (by simp) _).far (p := ⟨w.heap.size, 1, none⟩) (by simp) _).base_ (by omega), (hl6.setCell (p := ⟨w.heap.size, 0, none⟩) (Nat.le_refl _) _).setCell (p := ⟨w.heap.size, 1, none⟩) (Nat.le_refl _) _⟩)
      clear hG6 hH6 hl6 hz6 hN hnd hC hk4 hbel
      go_wp2_with fail
      refine bodyPost_ret (v := .tuple #[.agg #[.slice (some ⟨G, 0, none⟩) ts.length ts.length, .slice (some ⟨H, 0, none⟩) ts.length ts.length], .int .i64 0]) (by simp [results, Tryz.results24, go_sem, z0, z1]) rfl ?_
      exact HR.out
end Go.Proofs.YtkmhagjdafeebaaGreat
/- Layer 5 (point): which ins agree, Go: contracts. -/
namespace Go.Proofs.YtkmhagjdafeebaaGreat
open Go.RowKit
theorem second_lt {x : List Ten} (h : ¬ x.length < 2) (i : Nat) : Ly.second x i = Ly.at_ (Ly.got x 1).c i := by unfold Ly.second; rw [if_neg h]
namespace Ly
def okTo (x : List Ten) (t : Ten) : Bool := Tn.right t && decide (t.s = (got x 0).s)
theorem agree_op {kind : Int} {x : List Ten} (h : Od.ptIns kind = 0) : ptAgree kind x = 21 := by unfold ptAgree; rw [if_pos h]
theorem agree_len {kind : Int} {x : List Ten} (h : Od.ptIns kind ≠ 0) (h2 : (x.length : Int) ≠ Od.ptIns kind) : ptAgree kind x = 20 := by unfold ptAgree; rw [if_neg h, if_pos h2]
theorem agree_all {kind : Int} {x : List Ten} (h : Od.ptIns kind ≠ 0) (h2 : (x.length : Int) = Od.ptIns kind) : ptAgree kind x = if x.all (okTo x) then 0 else 20 := by unfold ptAgree okTo; rw [if_neg h, if_neg (fun k => k h2)]
theorem ptIns_cases (k : Int) : (Od.ptIns k = 0) ∨ (Od.ptIns k = 1 ∧ 1 ≤ k ∧ k ≤ 5) ∨ (Od.ptIns k = 2 ∧ 6 ≤ k ∧ k ≤ 7) := by
  unfold Od.ptIns
  split
  · right; left; omega
  · split
    · right; right; omega
    · left; rfl
theorem agree_yes {kind : Int} {x : List Ten} (h : ptAgree kind x = 0) : 1 ≤ kind ∧ kind ≤ 7 ∧ (x.length : Int) = Od.ptIns kind ∧ 1 ≤ x.length ∧ x.length ≤ 2 ∧ ∀ t ∈ x, okTo x t = true := by
  by_cases h1 : Od.ptIns kind = 0
  · rw [agree_op h1] at h; omega
  by_cases h2 : (x.length : Int) = Od.ptIns kind
  · rw [agree_all h1 h2] at h
    by_cases h3 : x.all (okTo x) = true
    · have h4 := ptIns_cases kind
      exact ⟨by omega, by omega, h2, by omega, by omega, List.all_eq_true.1 h3⟩
    · rw [if_neg h3] at h; omega
  · rw [agree_len h1 h2] at h; omega
theorem ok_right {x : List Ten} {t : Ten} (h : okTo x t = true) : Tn.right t = true ∧ t.s = (got x 0).s := by simpa [okTo] using h
end Ly
end Go.Proofs.YtkmhagjdafeebaaGreat
/- Layer 5 (point): Go: contract. -/
namespace Go.Proofs.YtkmhagjdafeebaaGreat
open Go.RowKit
namespace Ly
theorem point_err {kind k : Int} {x : List Ten} (h : ptAgree kind x ≠ 0) : point kind k x = (none_, ptAgree kind x) := by unfold point; rw [if_neg h]
theorem point_ok {kind k : Int} {x : List Ten} (h : ptAgree kind x = 0) : point kind k x = (⟨(got x 0).s, tab (got x 0).c.length fun i => cell kind k (at_ (got x 0).c i) (second x i)⟩, 0) := by unfold point; rw [if_pos h]
theorem right_ok {t : Ten} (h : Tn.right t = true) : t.s.length ≤ 4 ∧ t.c.length ≤ 65536 := by have := Tn.right_len h; omega
theorem same_len {a b : Ten} (ha : Tn.right a = true) (hb : Tn.right b = true) (h : a.s = b.s) : a.c.length = b.c.length := by
  simp [Tn.right] at ha hb
  rw [h] at ha
  omega
end Ly
theorem Blk.row_get {w : World} {h : Nat} {t : TypeId} {l : List Int} {k : Nat} (hb : Blk w h t (l.map (Value.int .i64)).toArray) (hk : k < l.length) : w.cell? ⟨h, k, none⟩ = some (.int .i64 l[k]) := by
  rw [hb.cell, List.getElem?_toArray, List.getElem?_eq_getElem (by simpa using hk)]; simp
end Go.Proofs.YtkmhagjdafeebaaGreat
/- Layer 4 (tensor): alike, Add: contracts. -/
namespace Go.Proofs.YtkmhagjdafeebaaGreat
open Go.RowKit
namespace Ly
theorem alike_a {a b : Ten} (h : Tn.right a = false) : alike a b = false := by simp [alike, h]
theorem alike_b {a b : Ten} (h : Tn.right b = false) : alike a b = false := by simp [alike, h]
theorem alike_s {a b : Ten} (h : Tn.right a = true) (h2 : Tn.right b = true) : alike a b = (a.s == b.s) := by simp [alike, h, h2]; rw [Bool.eq_iff_iff]; simp
theorem alike_yes {a b : Ten} (h : alike a b = true) : Tn.right a = true ∧ Tn.right b = true ∧ a.s = b.s := by simpa [alike, and_assoc] using h
theorem add_err {a b : Ten} (h : alike a b = false) : add a b = (none_, 20) := by simp [add, h]
theorem add_ok {a b : Ten} (h : alike a b = true) : add a b = (⟨a.s, tab a.c.length fun i => Fx.add (at_ a.c i) (at_ b.c i)⟩, 0) := by simp [add, h]
end Ly
/-- Two boxes laid by the call. -/
theorem two_boxes (w : World) (t t' : TypeId) (a b : Array Value) : Blk ((w.alloc (.cells a t)).alloc (.cells b t')) w.heap.size t a ∧ Blk ((w.alloc (.cells a t)).alloc (.cells b t')) (w.heap.size + 1) t' b ∧ Later w ((w.alloc (.cells a t)).alloc (.cells b t')) := by
  refine ⟨(Blk.new w t a).alloc _, ?_, ((Later.refl w).alloc _).alloc _⟩
  have := Blk.new (w.alloc (.cells a t)) t' b
  rwa [World.size_alloc] at this
namespace Ly
theorem mid_at (C L : List Int) {k : Nat} (hk : k < L.length) (hn : C.length = L.length) : ∃ h : k < (C.take k ++ L.drop k).length, (C.take k ++ L.drop k)[k] = L[k] := by
  have h1 : (C.take k).length = k := by simp; omega
  refine ⟨by simp; omega, ?_⟩
  rw [List.getElem_append_right (by omega)]
  simp [h1]
end Ly
theorem three_boxes (w : World) (t t' t2 : TypeId) (a b z : Array Value) : Blk (((w.alloc (.cells a t)).alloc (.cells b t')).alloc (.cells z t2)) w.heap.size t a ∧ Blk (((w.alloc (.cells a t)).alloc (.cells b t')).alloc (.cells z t2)) (w.heap.size + 1) t' b ∧ Blk (((w.alloc (.cells a t)).alloc (.cells b t')).alloc (.cells z t2)) (w.heap.size + 2) t2 z ∧ Later w (((w.alloc (.cells a t)).alloc (.cells b t')).alloc (.cells z t2)) := by
  obtain ⟨h1, h2, h3⟩ := two_boxes w t t' a b
  refine ⟨h1.alloc _, h2.alloc _, ?_, h3.alloc _⟩
  have := Blk.new ((w.alloc (.cells a t)).alloc (.cells b t')) t2 z
  rwa [World.size_alloc, World.size_alloc] at this
/-- Rows of numbers and of shapes lie apart. -/
theorem rows_apart {w : World} {g h : Nat} {s c : List Int} (hG : Blk w g 3 (s.map (Value.int .i64)).toArray) (hH : Blk w h 37 (c.map (Value.int .i64)).toArray) : g ≠ h := by
  intro e
  subst e
  have h1 : (Obj.cells (s.map (Value.int .i64)).toArray 3 (0, 0)) = _ := Option.some.inj (hG.symm.trans hH)
  injection h1 with _ h2 _
  exact absurd h2 (by decide)
end Go.Proofs.YtkmhagjdafeebaaGreat
/- Layer 14 (plain): Fits: contract. -/
namespace Go.Proofs.YtkmhagjdafeebaaGreat
open Go.RowKit
namespace Pn
def tenIs (t : Ten) (s : List Int) : Bool := Tn.right t && (t.s == s)
def parOk (ps : List Ten) (ss : List (List Int)) (k : Nat) : Bool := (List.range k).all fun i => tenIs (Ly.got ps i) (ss.getD i [])
def fits (n : NetD) (ps : List Ten) (x : Ten) : Int :=
  if Nt.check n ≠ 0 then Nt.check n else if ps.length ≠ (Nt.params n).length then 20 else if parOk ps (Nt.params n) (Nt.params n).length = false then 20 else if tenIs x n.inn then 0 else 20
theorem parOk_succ {ps : List Ten} {ss : List (List Int)} {k : Nat} (h : parOk ps ss k = true) (h2 : tenIs (Ly.got ps k) (ss.getD k []) = true) : parOk ps ss (k + 1) = true := by
  unfold parOk at h ⊢
  rw [List.range_succ, List.all_append, h, List.all_cons, h2]
  rfl
theorem parOk_bad {ps : List Ten} {ss : List (List Int)} {k m : Nat} (hk : k < m) (h2 : tenIs (Ly.got ps k) (ss.getD k []) = false) : parOk ps ss m = false := by
  unfold parOk
  rw [List.all_eq_false]
  exact ⟨k, by simpa using hk, by rw [h2]; simp⟩
end Pn
set_option maxHeartbeats 16000000 in
set_option maxRecDepth 20000 in
theorem plain_fits (A N P XS XC : Option Addr) (c d cp xc xd : Nat) (n : NetD) (ps : List Ten) (x : Ten) (w : World) (hok : n.ok) (hR : NetR w A N n) (hd : n.nodes.length ≤ d) (hP : Tns w P ps) (lP : ps.length ≤ 1048576) (hX : TenIn w XS XC xc xd x) :
    Calls Tryz.prog 50 #[.agg #[.slice A n.inn.length c, .slice N n.nodes.length d], .slice P ps.length cp, .agg #[.slice XS x.s.length xc, .slice XC x.c.length xd]] w fun e w' => e = .returned (.int .i64 (Pn.fits n ps x)) ∧ Below w.heap.size w w' := by
  have hkn := (Blk.new w 45 #[.slice A n.inn.length c, .slice N n.nodes.length d]).alloc (.cells #[.slice XS x.s.length xc, .slice XC x.c.length xd] 26)
  have hkx := Blk.new (w.alloc (.cells #[.slice A n.inn.length c, .slice N n.nodes.length d] 45)) 26 #[.slice XS x.s.length xc, .slice XC x.c.length xd]
  rw [World.size_alloc] at hkx
  have h01 : Later w ((w.alloc (.cells #[.slice A n.inn.length c, .slice N n.nodes.length d] 45)).alloc (.cells #[.slice XS x.s.length xc, .slice XC x.c.length xd] 26)) := ((Later.refl w).alloc _).alloc _
  have hil := hok.1
  have lx1 := hX.l1
  have lx2 := hX.l2
  have Hok := Lib.hid hok
  have HR := Lib.hid hR
  have HP := Lib.hid hP
  have HX := Lib.hid hX
  have Hkn := Lib.hid hkn
  have Hkx := Lib.hid hkx
  have H01 := Lib.hid h01
  clear hok hR hP hX hkn hkx h01
  go_enter Tryz.func50, Tryz.ntmps50
  go_upto_region 1 with fail
  generalize (w.alloc (.cells #[.slice A n.inn.length c, .slice N n.nodes.length d] 45)).alloc (.cells #[.slice XS x.s.length xc, .slice XC x.c.length xd] 26) = w1 at *
  have a0 := Hkn.out.cell 0
  have a1 := Hkn.out.cell 1
  simp at a0 a1
  go_wp2_with fail
  refine (net_check A N c d n w1 Hok.out (HR.out.below H01.out (Nat.le_refl _)) hd).mono ?_
  rintro e w2 ⟨rfl, hb2⟩
  have h12 : Later w1 w2 := hb2
  have h02 := H01.out.trans h12
  have hk2 := h12.blk Hkn.out
  have hx2 := h12.blk Hkx.out
  clear hb2 a0 a1
  by_cases hc : Nt.check n = 0
  case neg =>
    have HE := Lib.hid (show Pn.fits n ps x = Nt.check n by unfold Pn.fits; rw [if_pos hc])
    have d2 : (Nt.check n != 0) = true := by simpa using hc
    clear hc
    generalize Nt.check n = ge at *
    have H12 := Lib.hid h12
    have H02 := Lib.hid h02
    have Hk2 := Lib.hid hk2
    have Hx2 := Lib.hid hx2
    clear h12 h02 hk2 hx2
    go_wp2_with fail
    go_ret
    exact ⟨by (rw [HE.out] <;> rfl), H02.out⟩
  have he := show Pn.fits n ps x = (if ps.length ≠ (Nt.params n).length then 20 else if Pn.parOk ps (Nt.params n) (Nt.params n).length = false then 20 else if Pn.tenIs x n.inn then 0 else 20) by unfold Pn.fits; rw [if_neg (by omega)]
  rw [hc]
  clear hc
  have a0 := hk2.cell 0
  have a1 := hk2.cell 1
  simp at a0 a1
  have H12 := Lib.hid h12
  have H02 := Lib.hid h02
  have Hk2 := Lib.hid hk2
  have Hx2 := Lib.hid hx2
  have He := Lib.hid he
  clear h12 h02 hk2 hx2 he
  go_wp2_with fail
  refine (net_params A N c d n w2 Hok.out (HR.out.below H02.out (Nat.le_refl _))).mono ?_
  rintro e w3 ⟨B, bc, rfl, hB, hB1, hB2, hb3⟩
  have h23 : Later w2 w3 := hb3
  have h03 := H02.out.trans h23
  have hk3 := h23.blk Hk2.out
  have hx3 := h23.blk Hx2.out
  have hsl : ∀ s ∈ Nt.params n, s.length ≤ 1048576 := fun s hs => by
    unfold Nt.params at hs
    obtain ⟨v, hv, hvs⟩ := List.mem_flatMap.1 hs
    exact (Hok.out.2.2 v hv).2.2.2.2.1 s hvs
  clear hb3 a0 a1
  generalize Nt.params n = ss at *
  have H23 := Lib.hid h23
  have H03 := Lib.hid h03
  have Hk3 := Lib.hid hk3
  have Hx3 := Lib.hid hx3
  have HB := Lib.hid hB
  have Hsl := Lib.hid hsl
  clear h23 h03 hk3 hx3 hB hsl
  by_cases hl : ps.length = ss.length
  case neg =>
    have HE := Lib.hid (He.out.trans (if_pos hl))
    have d2 : ((ps.length : Int) != (ss.length : Int)) = true := by simp; omega
    clear hl
    go_wp2_with fail
    go_ret
    exact ⟨by (rw [HE.out] <;> rfl), H03.out⟩
  have he2 := He.out.trans (if_neg (by omega))
  have d2 : ((ps.length : Int) != (ss.length : Int)) = false := by simp; omega
  have hl1 : ss.length ≤ 1048576 := by omega
  have Hl := Lib.hid hl
  clear hl
  have He2 := Lib.hid he2
  clear he2
  go_wp2_with fail
  clear d2
  go_loopw [25] (fun i wx => ∃ k : Nat, k ≤ ss.length ∧ i = .int .i64 (k : Int) ∧ Pn.parOk ps ss k = true ∧ Later w3 wx) (fun i _ => ss.length - (intOf i).toNat)
  case atStart => exact ⟨0, Nat.zero_le _, rfl, rfl, Later.refl _⟩
  case round =>
    obtain ⟨k, hk, rfl, hall, hlx⟩ := hrel
    by_cases hlt : k < ss.length
    · obtain ⟨b, off, T, tc, rfl, -, hcs, hIs, hs1, hs2⟩ := (HB.out.below hlx (Nat.le_refl _)) k hlt
      have hltp : k < ps.length := by rw [Hl.out]; exact hlt
      obtain ⟨b', off', S', sc, C', cc, rfl, -, p0, p1, hT⟩ := (HP.out.later (H03.out.trans hlx)).at_ hltp
      have hsk := Hsl.out _ (List.getElem_mem hlt)
      have hgd : ss.getD k [] = ss[k] := by rw [List.getD_eq_getElem?_getD, List.getElem?_eq_getElem hlt]; rfl
      have hbad := fun h => Pn.parOk_bad (ps := ps) (ss := ss) (m := ss.length) hlt h
      have hgood := fun h => Pn.parOk_succ hall h
      rw [hgd] at hbad hgood
      have t1 := hT.l1
      have t2 := hT.l2
      have kk1 : (k : Int) < (ss.length : Int) := by omega
      have kk2 : (k : Int) < (ps.length : Int) := by omega
      generalize ss[k] = s at *
      generalize Ly.got ps k = t at *
      have hrg := fun (V : World) (h : Later wr V) => tensor_right S' C' sc cc t V (by omega) (by omega) (hT.later h).r.1
      have heq := fun (V : World) (h : Later wr V) => shape_equal S' T sc tc t.s s V (by omega) (by omega) (hT.later h).r.1 (hIs.below h (Nat.le_refl _))
      have Hall := Lib.hid hall
      have Hlx := Lib.hid hlx
      have Hbad := Lib.hid hbad
      have Hgood := Lib.hid hgood
      have Hrg := Lib.hid hrg
      have Heq := Lib.hid heq
      clear hall hlx hbad hgood hrg heq
      clear hIs hT hgd
      cases hr : Tn.right t
      · have HE := Lib.hid (He2.out.trans (if_pos (Hbad.out (by unfold Pn.tenIs; rw [hr]; rfl))))
        rw [hr] at Hrg
        go_wp2_with fail
        refine (Hrg.out _ (Later.refl _)).mono ?_
        rintro e w4 ⟨rfl, hb4⟩
        go_wp2_with fail
        go_ret
        exact ⟨by (rw [HE.out] <;> rfl), (H03.out.trans Hlx.out).call hb4⟩
      · rw [hr] at Hrg
        go_wp2_with fail
        refine (Hrg.out _ (Later.refl _)).mono ?_
        rintro e w4 ⟨rfl, hb4⟩
        have h4 : Later wr w4 := hb4
        have p0' := h4.cell p0
        have p1' := h4.cell p1
        clear p0 p1 hcs hb4
        cases hq : (t.s == s)
        · have HE := Lib.hid (He2.out.trans (if_pos (Hbad.out (by unfold Pn.tenIs; rw [hr, hq]; rfl))))
          rw [hq] at Heq
          have H4 := Lib.hid h4
          clear h4
          go_wp2_with fail
          refine (Heq.out _ H4.out).mono ?_
          rintro e w5 ⟨rfl, q5, rfl⟩
          go_wp2_with fail
          go_ret
          exact ⟨by (rw [HE.out] <;> rfl), ((H03.out.trans Hlx.out).trans H4.out).drewN q5⟩
        · have HN := Lib.hid (Hgood.out (by unfold Pn.tenIs; rw [hr, hq]; rfl))
          rw [hq] at Heq
          clear hq
          have H4 := Lib.hid h4
          clear h4
          go_wp2_with fail
          refine (Heq.out _ H4.out).mono ?_
          rintro e w5 ⟨rfl, q5, rfl⟩
          go_wp2_with fail
          go_roundw
          case rel => exact ⟨k + 1, by omega, by go_num, HN.out, (Hlx.out.trans H4.out).drewN q5⟩
          case measure => simp [intOf]; omega
    · obtain rfl : k = ss.length := by omega
      have he3 := He2.out.trans (if_neg (by show ¬ Pn.parOk ps ss ss.length = false; rw [hall]; simp))
      have hkr := hlx.blk Hk3.out
      have hxr := hlx.blk Hx3.out
      have a0 := hkr.cell 0
      have a1 := hkr.cell 1
      have b0 := hxr.cell 0
      have b1 := hxr.cell 1
      simp at a0 a1 b0 b1
      have h0r := H03.out.trans hlx
      have hXr := HX.out.later h0r
      have hrg := tensor_right XS XC xc xd x wr (by omega) (by omega) hXr.r.1
      have heq := fun (V : World) (h : Later wr V) => shape_equal XS A xc c x.s n.inn V (by omega) (by omega) (hXr.later h).r.1 (HR.out.1.below (h0r.trans h) (Nat.le_refl _))
      clear hall
      have Hlx := Lib.hid hlx
      have He3 := Lib.hid he3
      have Hkr := Lib.hid hkr
      have Hxr := Lib.hid hxr
      have H0r := Lib.hid h0r
      have HXr := Lib.hid hXr
      have Hrg := Lib.hid hrg
      have Heq := Lib.hid heq
      clear hlx he3 hkr hxr h0r hXr hrg heq
      cases hr : Tn.right x
      · have HE := Lib.hid (He3.out.trans (if_neg (by unfold Pn.tenIs; rw [hr]; simp)))
        rw [hr] at Hrg
        go_wp2_with fail
        refine (Hrg.out).mono ?_
        rintro e w4 ⟨rfl, hb4⟩
        go_wp2_with fail
        go_ret
        exact ⟨by (rw [HE.out] <;> rfl), H0r.out.call hb4⟩
      · rw [hr] at Hrg
        go_wp2_with fail
        refine (Hrg.out).mono ?_
        rintro e w4 ⟨rfl, hb4⟩
        have h4 : Later wr w4 := hb4
        have a0' := h4.cell a0
        have b0' := h4.cell b0
        clear a0 a1 b0 b1 hb4
        cases hq : (x.s == n.inn)
        · have HE := Lib.hid (He3.out.trans (if_neg (by unfold Pn.tenIs; rw [hr, hq]; simp)))
          rw [hq] at Heq
          have H4 := Lib.hid h4
          clear h4
          go_wp2_with fail
          refine (Heq.out _ H4.out).mono ?_
          rintro e w5 ⟨rfl, q5, rfl⟩
          go_wp2_with fail
          go_ret
          exact ⟨by (rw [HE.out] <;> rfl), (H0r.out.trans H4.out).drewN q5⟩
        · have HE := Lib.hid (He3.out.trans (if_pos (by unfold Pn.tenIs; rw [hr, hq]; rfl)))
          rw [hq] at Heq
          clear hq
          have H4 := Lib.hid h4
          clear h4
          go_wp2_with fail
          refine (Heq.out _ H4.out).mono ?_
          rintro e w5 ⟨rfl, q5, rfl⟩
          go_wp2_with fail
          go_ret
          exact ⟨by (rw [HE.out] <;> rfl), (H0r.out.trans H4.out).drewN q5⟩
end Go.Proofs.YtkmhagjdafeebaaGreat
/- Layer 11 (net): Copy: contract. -/
namespace Go.Proofs.YtkmhagjdafeebaaGreat
open Go.RowKit
theorem Blk.new' {w : World} {g : Nat} (t : TypeId) (cs : Array Value) (h : g = w.heap.size) : Blk (w.alloc (.cells cs t)) g t cs := by subst h; exact Blk.new w t cs
theorem Blk.set2 {w : World} {g : Nat} {t : TypeId} {a b : Value} (h : Blk w g t #[a, b]) (x y : Value) : Blk ((w.setCell ⟨g, 0, none⟩ x).setCell ⟨g, 1, none⟩ y) g t #[x, y] := (h.set_ 0 x).set_ 1 y
theorem Blk.far' {w : World} {g : Nat} {t : TypeId} {cs : Array Value} (h : Blk w g t cs) {b i : Nat} (hp : g ≠ b) (u : Value) : Blk (w.setCell ⟨b, i, none⟩ u) g t cs := h.far (p := ⟨b, i, none⟩) hp u
theorem two_lt (w : World) (o p : Obj) : w.heap.size + 1 < ((w.alloc o).alloc p).drew.heap.size := by simp
theorem bcell {B : Nat} {W w1 : World} (hb : Below B W w1) : (∀ b o, b < B → w1.cell? ⟨b, o, none⟩ = W.cell? ⟨b, o, none⟩) ∧ (∀ b o, b < B → w1.frozen? ⟨b, o, none⟩ = W.frozen? ⟨b, o, none⟩) :=
  ⟨fun b o h => hb.cell (p := ⟨b, o, none⟩) h, fun b o h => hb.frozen (p := ⟨b, o, none⟩) h⟩
def CloneP (zs : List Int) (w : World) (e : Ending) (w' : World) : Prop :=
  ∃ J jc, e = .returned (.slice J zs.length jc) ∧ w'.ownsRow w.heap.size 3 1 (.slice J zs.length jc) zs.length (zs.map (Value.int .i64)) ∧ Below w.heap.size w w'
theorem clone_ints (A : Option Addr) (c : Nat) (zs : List Int) (w : World) (hl : zs.length ≤ 1048576) (hI : Ints .i64 w A zs) :
    Calls Tryz.prog 54 #[.slice A zs.length c] w (CloneP zs w) := by
  by_cases h : zs = []
  · subst h
    rcases A with _ | a
    · refine (Tryz.slices_Clone_int_nil 0 c w).mono ?_
      rintro e w' ⟨rfl, rfl⟩
      exact ⟨none, 0, rfl, World.ownsRow_nil _ _ _ _, Below.refl _ _⟩
    · refine (Tryz.slices_Clone_int_zero a c w).mono ?_
      rintro e w' ⟨v, rfl, ho, -, hb⟩
      obtain ⟨J, jc, rfl⟩ := own_form ho
      exact ⟨J, jc, rfl, ho, hb⟩
  · obtain ⟨b, off, rfl, -, -⟩ := hI 0 (List.length_pos_iff.2 h)
    refine (Tryz.slices_Clone_int b off zs.length c zs w (Nat.le_refl _) (by omega) (fun j hj => ?_)).mono ?_
    · obtain ⟨b', o', e, -, hc⟩ := hI j hj
      injection e with e; injection e with e1 e2; subst e1 e2
      exact hc
    · rintro e w' ⟨v, rfl, ho, -, hb⟩
      rw [List.take_length] at ho
      obtain ⟨J, jc, rfl⟩ := own_form ho
      exact ⟨J, jc, rfl, ho, hb⟩
/-- The new net, before its nodes are copied. -/
def CpCut (n : NetD) (w1 : World) (zc : Array Value) (v v9 v13 : Value) (wx : World) : Prop :=
  ∃ G a g, v = .pointer (some ⟨G, 0, none⟩) ∧ v9 = .slice (some ⟨a, 0, none⟩) n.inn.length n.inn.length ∧ v13 = .slice (some ⟨g, 0, none⟩) n.nodes.length n.nodes.length ∧ w1.heap.size < G ∧ w1.heap.size < a ∧ w1.heap.size < g ∧ G ≠ g ∧ Blk wx G 45 #[.slice (some ⟨a, 0, none⟩) n.inn.length n.inn.length, .slice (some ⟨g, 0, none⟩) n.nodes.length n.nodes.length] ∧
    Blk wx a 3 (n.inn.map (Value.int .i64)).toArray ∧ Blk wx g 42 zc ∧ Blk wx w1.heap.size 45 #[.slice none 0 0, .slice none 0 0] ∧ Later w1 wx
theorem node_info : (Tryz.prog.info? 42).map (fun i => (i.zero, i.size, i.bytes)) = some (some (.agg #[.int .i64 0, .int .i64 0, .int .i64 0, .int .i64 0, .int .i64 0, .int .i64 0, .int .i64 0, .slice none 0 0, .slice none 0 0, .slice none 0 0]), 10, 128) := by kernel_rfl
set_option maxRecDepth 20000 in
set_option maxHeartbeats 8000000 in
theorem net_copy (A N : Option Addr) (c d : Nat) (n : NetD) (w : World) (hok : n.ok) (hR : NetR w A N n) :
    Calls Tryz.prog 25 #[.agg #[.slice A n.inn.length c, .slice N n.nodes.length d]] w fun e w' => NetCp w.heap.size n e w' ∧ Below w.heap.size w w' := by
  obtain ⟨i0, hi, hz0, hz1, hz2⟩ := info_parts node_info
  have hb0 : Below w.heap.size w (w.alloc (.cells #[.slice A n.inn.length c, .slice N n.nodes.length d] 45)) := (Below.refl _ _).alloc (Nat.le_refl _) _
  have hk0 := Blk.new w 45 #[.slice A n.inn.length c, .slice N n.nodes.length d]
  have x0 : (w.alloc (.cells #[.slice A n.inn.length c, .slice N n.nodes.length d] 45)).cell? ⟨w.heap.size, 0, none⟩ = some (.slice A n.inn.length c) := by rw [hk0.cell]; rfl
  have x1 : (w.alloc (.cells #[.slice A n.inn.length c, .slice N n.nodes.length d] 45)).cell? ⟨w.heap.size, 1, none⟩ = some (.slice N n.nodes.length d) := by rw [hk0.cell]; rfl
  have hl1 := hok.1
  have hl2 := hok.2.1
  have hmk : ∀ W : World, (Instr.makeSlice 43 (.int .i64 (n.nodes.length : Int)) (.int .i64 (n.nodes.length : Int))).run Tryz.prog W = .ok (.slice (some ⟨W.heap.size, 0, none⟩) n.nodes.length n.nodes.length) (W.alloc (.cells (madeCells (Value.agg #[.int .i64 0, .int .i64 0, .int .i64 0, .int .i64 0, .int .i64 0, .int .i64 0, .int .i64 0, .slice none 0 0, .slice none 0 0, .slice none 0 0]).cells (n.nodes.length * 10)) 42)) := fun W => by
    have := run_make (P := Tryz.prog) W 43 42 i0 _ Tryz.underlying43 hi hz0 .i64 .i64 n.nodes.length n.nodes.length (by omega) (by omega) (by rw [hz2]; omega) (by omega)
    rw [hz1, Int.toNat_natCast] at this
    exact this
  have hs1 := hk0.lt
  have her : (w.alloc (.cells #[.slice A n.inn.length c, .slice N n.nodes.length d] 45)).heap.size = w.heap.size + 1 := by simp
  have hzc : (madeCells (Value.agg #[.int .i64 0, .int .i64 0, .int .i64 0, .int .i64 0, .int .i64 0, .int .i64 0, .int .i64 0, .slice none 0 0, .slice none 0 0, .slice none 0 0]).cells (n.nodes.length * 10)).size = n.nodes.length * 10 := size_madeCells _ _
  generalize madeCells (Value.agg #[.int .i64 0, .int .i64 0, .int .i64 0, .int .i64 0, .int .i64 0, .int .i64 0, .int .i64 0, .slice none 0 0, .slice none 0 0, .slice none 0 0]).cells (n.nodes.length * 10) = zc at *
  have hR1 := hR.below hb0 (Nat.le_refl _)
  have Hok := Lib.hid hok
  have HR := Lib.hid hR
  have Hk0 := Lib.hid hk0
  have HR1 := Lib.hid hR1
  have Hzc := Lib.hid hzc
  have Her := Lib.hid her
  clear hok hR hk0 hR1 hzc her
  go_enter Tryz.func25, Tryz.ntmps25
  go_wp2_with fail
  generalize w.alloc (.cells #[.slice A n.inn.length c, .slice N n.nodes.length d] 45) = w1 at *
  go_upto_region 1 with fail
  go_cut [3, 9, 13] (CpCut n w1 zc)
  case first =>
    go_region_held3 (fun W => W.cell? ⟨w.heap.size, 0, none⟩ = some (.slice A n.inn.length c) ∧ W.cell? ⟨w.heap.size, 1, none⟩ = some (.slice N n.nodes.length d)) (first | exact ⟨x0, x1⟩ | exact ⟨Later.cell (show Later w1 _ by repeat (first | exact Later.refl _ | apply Later.drew | apply Later.alloc | refine Later.call ?_ (by assumption) | refine Later.set ?_ (by first | omega | (simp; done) | (simp; omega)) _)) x0, Later.cell (show Later w1 _ by repeat (first | exact Later.refl _ | apply Later.drew | apply Later.alloc | refine Later.call ?_ (by assumption) | refine Later.set ?_ (by first | omega | (simp; done) | (simp; omega)) _)) x1⟩)
      (first
      | (go_at_call 53; refine (shape_copy A c n.inn _ (by omega) (HR1.out.1.below (show Later w1 _ by repeat (first | exact Later.refl _ | apply Later.drew | apply Later.alloc | refine Later.call ?_ (by assumption) | refine Later.set ?_ (by first | omega | (simp; done) | (simp; omega)) _)) (Nat.le_refl _))).mono ?_; rintro e w2 ⟨h, rfl, hh, hB, hb2⟩; obtain ⟨hcc, hcf⟩ := bcell hb2; have hzz := hb2.size; simp at hzz; try (have q0 := hcc (w1.heap.size + 1) 0 (two_lt w1 _ _); have q1 := hcc (w1.heap.size + 1) 1 (two_lt w1 _ _); have q2 := hcf (w1.heap.size + 1) 0 (two_lt w1 _ _); have q3 := hcf (w1.heap.size + 1) 1 (two_lt w1 _ _); simp at q0 q1 q2 q3; have hz3 := Nat.lt_of_lt_of_le (two_lt w1 _ _) hb2.size)))
    all_goals
      go_wp2_with fail
      go_meet
      simp at hh
      have hB' : Blk w2 _ 3 (n.inn.map (Value.int .i64)).toArray := hB
      refine ⟨_, _, _, rfl, rfl, rfl, ?_, ?_, ?_, ?_, ?_, ?_, ?_, ?_, (show Later w1 _ by repeat (first | exact Later.refl _ | apply Later.drew | apply Later.alloc | refine Later.call ?_ (by assumption) | refine Later.set ?_ (by first | omega | (simp; done) | (simp; omega)) _))⟩
      · omega
      · omega
      · omega
      · omega
      · exact (by repeat (first | (with_reducible exact hB') | ((with_reducible refine Blk.new' _ _ ?_); first | rfl | (simp; done) | (simp; omega)) | (with_reducible refine Blk.set2 (a := .slice none 0 0) (b := .slice none 0 0) ?_ _ _) | ((with_reducible refine Blk.far' ?_ ?_ _); rotate_left; omega) | (with_reducible refine Blk.alloc ?_ _) | (with_reducible refine Blk.drew ?_) | ((with_reducible refine Blk.below ?_ hb2 ?_); rotate_left; (focus first | (simp; done) | (simp; omega)))))
      · exact (by repeat (first | (with_reducible exact hB') | ((with_reducible refine Blk.new' _ _ ?_); first | rfl | (simp; done) | (simp; omega)) | (with_reducible refine Blk.set2 (a := .slice none 0 0) (b := .slice none 0 0) ?_ _ _) | ((with_reducible refine Blk.far' ?_ ?_ _); rotate_left; omega) | (with_reducible refine Blk.alloc ?_ _) | (with_reducible refine Blk.drew ?_) | ((with_reducible refine Blk.below ?_ hb2 ?_); rotate_left; (focus first | (simp; done) | (simp; omega)))))
      · exact (by repeat (first | (with_reducible exact hB') | ((with_reducible refine Blk.new' _ _ ?_); first | rfl | (simp; done) | (simp; omega)) | (with_reducible refine Blk.set2 (a := .slice none 0 0) (b := .slice none 0 0) ?_ _ _) | ((with_reducible refine Blk.far' ?_ ?_ _); rotate_left; omega) | (with_reducible refine Blk.alloc ?_ _) | (with_reducible refine Blk.drew ?_) | ((with_reducible refine Blk.below ?_ hb2 ?_); rotate_left; (focus first | (simp; done) | (simp; omega)))))
      · exact (by repeat (first | (with_reducible exact hB') | ((with_reducible refine Blk.new' _ _ ?_); first | rfl | (simp; done) | (simp; omega)) | (with_reducible refine Blk.set2 (a := .slice none 0 0) (b := .slice none 0 0) ?_ _ _) | ((with_reducible refine Blk.far' ?_ ?_ _); rotate_left; omega) | (with_reducible refine Blk.alloc ?_ _) | (with_reducible refine Blk.drew ?_) | ((with_reducible refine Blk.below ?_ hb2 ?_); rotate_left; (focus first | (simp; done) | (simp; omega)))))
  case rest =>
    obtain ⟨G, a, g, rfl, rfl, rfl, hG1, ha1, hg1, hGg, hbG, hba, hbg, hbR, hlt⟩ := hcut
    have hx1 : wc.cell? ⟨w.heap.size, 1, none⟩ = some (.slice N n.nodes.length d) := hlt.cell x1
    have hcz : CpRow w1.heap.size wc g zc n.nodes 0 := CpRow.zero hbg
    have HbG := Lib.hid hbG
    have Hba := Lib.hid hba
    have Hbg := Lib.hid hbg
    have HbR := Lib.hid hbR
    have Hlt := Lib.hid hlt
    have Hcz := Lib.hid hcz
    clear hbG hba hbg hbR hlt hcz
    clear x0 x1 hmk
    go_wp2_with fail
    go_loopw [18] (fun i wx => ∃ k : Nat, k ≤ n.nodes.length ∧ i = .int .i64 (k : Int) ∧ CpRow w1.heap.size wx g zc n.nodes k ∧ Blk wx G 45 #[.slice (some ⟨a, 0, none⟩) n.inn.length n.inn.length, .slice (some ⟨g, 0, none⟩) n.nodes.length n.nodes.length] ∧ Blk wx a 3 (n.inn.map (Value.int .i64)).toArray ∧ Blk wx w1.heap.size 45 #[.slice none 0 0, .slice none 0 0] ∧ Later w1 wx) (fun i _ => n.nodes.length - (intOf i).toNat)
    case atStart => exact ⟨0, Nat.zero_le _, rfl, Hcz.out, HbG.out, Hba.out, HbR.out, Hlt.out⟩
    case round =>
      obtain ⟨k, hk, rfl, hcp, hbG, hba, hbR, hlw⟩ := hrel
      clear hx1 Hbg Hlt Hcz HbG Hba HbR
      by_cases hlt : k < n.nodes.length
      · obtain ⟨b, off, S, sc, J, ic, Q, qc, rfl, hNA, -, -, -⟩ := HR1.out.2.at_ hlt
        have hnok := Hok.out.2.2 _ (List.getElem_mem hlt)
        have hnext := fun (B : Nat) (W : World) (h : CpRow B W g zc n.nodes k) => h.next hlt Hzc.out
        have hNAw := hNA.below hlw
        generalize n.nodes[k] = v at *
        obtain ⟨⟨y0, y1, y2, y3, y4, y5, y6, y7, y8, y9⟩, -⟩ := hNAw
        have hkn := (Blk.new wr 42 #[.int .i64 v.op.kind, .int .i64 v.op.k, .int .i64 v.op.width, .int .i64 v.op.step, .int .i64 v.op.side, .int .i64 v.op.frm, .int .i64 v.op.to, .slice S v.op.s.length sc, .slice J v.ins.length ic, .slice Q v.p.length qc]).alloc (.cells #[.int .i64 v.op.kind, .int .i64 v.op.k, .int .i64 v.op.width, .int .i64 v.op.step, .int .i64 v.op.side, .int .i64 v.op.frm, .int .i64 v.op.to, .slice S v.op.s.length sc] 39)
        have hko := Blk.new (wr.alloc (.cells #[.int .i64 v.op.kind, .int .i64 v.op.k, .int .i64 v.op.width, .int .i64 v.op.step, .int .i64 v.op.side, .int .i64 v.op.frm, .int .i64 v.op.to, .slice S v.op.s.length sc, .slice J v.ins.length ic, .slice Q v.p.length qc] 42)) 39 #[.int .i64 v.op.kind, .int .i64 v.op.k, .int .i64 v.op.width, .int .i64 v.op.step, .int .i64 v.op.side, .int .i64 v.op.frm, .int .i64 v.op.to, .slice S v.op.s.length sc]
        have hl2 : Later wr ((wr.alloc (.cells #[.int .i64 v.op.kind, .int .i64 v.op.k, .int .i64 v.op.width, .int .i64 v.op.step, .int .i64 v.op.side, .int .i64 v.op.frm, .int .i64 v.op.to, .slice S v.op.s.length sc, .slice J v.ins.length ic, .slice Q v.p.length qc] 42)).alloc (.cells #[.int .i64 v.op.kind, .int .i64 v.op.k, .int .i64 v.op.width, .int .i64 v.op.step, .int .i64 v.op.side, .int .i64 v.op.frm, .int .i64 v.op.to, .slice S v.op.s.length sc] 39)) := ((Later.refl wr).alloc _).alloc _
        rw [World.size_alloc] at hko
        have hsz2 : ((wr.alloc (.cells #[.int .i64 v.op.kind, .int .i64 v.op.k, .int .i64 v.op.width, .int .i64 v.op.step, .int .i64 v.op.side, .int .i64 v.op.frm, .int .i64 v.op.to, .slice S v.op.s.length sc, .slice J v.ins.length ic, .slice Q v.p.length qc] 42)).alloc (.cells #[.int .i64 v.op.kind, .int .i64 v.op.k, .int .i64 v.op.width, .int .i64 v.op.step, .int .i64 v.op.side, .int .i64 v.op.frm, .int .i64 v.op.to, .slice S v.op.s.length sc] 39)).heap.size = wr.heap.size + 2 := by simp
        have Hcp0 := Lib.hid hcp
        have hsw := hlw.size
        have HNA := Lib.hid hNA
        have Hnok := Lib.hid hnok
        have Hcp := Lib.hid hcp
        have HbG := Lib.hid hbG
        have Hba := Lib.hid hba
        have HbR := Lib.hid hbR
        have Hlw := Lib.hid hlw
        have Hnext := Lib.hid hnext
        have Hkn := Lib.hid hkn
        have Hko := Lib.hid hko
        have Hl2 := Lib.hid hl2
        clear hNA hnok hcp hbG hba hbR hlw hnext hkn hko hl2
        go_wp2_with fail
        generalize (wr.alloc (.cells #[.int .i64 v.op.kind, .int .i64 v.op.k, .int .i64 v.op.width, .int .i64 v.op.step, .int .i64 v.op.side, .int .i64 v.op.frm, .int .i64 v.op.to, .slice S v.op.s.length sc, .slice J v.ins.length ic, .slice Q v.p.length qc] 42)).alloc (.cells #[.int .i64 v.op.kind, .int .i64 v.op.k, .int .i64 v.op.width, .int .i64 v.op.step, .int .i64 v.op.side, .int .i64 v.op.frm, .int .i64 v.op.to, .slice S v.op.s.length sc] 39) = W2 at *
        clear y0 y1 y2 y3 y4 y5 y6 y7 y8 y9
        have hlen := Hnok.out
        have hl1 := hlen.2.1
        have hl2 := hlen.2.2.1
        have hl3 := hlen.2.2.2.1
        refine (shape_copy S sc v.op.s _ (by omega) ((HNA.out.below (Hlw.out.trans Hl2.out)).2.1)).mono ?_
        rintro e w3 ⟨h, rfl, hh, hB, hb3⟩
        have hB : Blk w3 h 3 (v.op.s.map (Value.int .i64)).toArray := hB
        have hl3' : Later wr w3 := Hl2.out.call hb3
        have hkn3 := (show Later W2 w3 from hb3).blk Hkn.out
        have hko3 := (show Later W2 w3 from hb3).blk Hko.out
        have o7 := hko3.cell 7
        have fo7 := hko3.frozen 7
        simp at o7
        have hs3 := hb3.size
        have hko4 := hko3.set_ 7 (.slice (some ⟨h, 0, none⟩) v.op.s.length v.op.s.length)
        have hkn4 := hkn3.far (p := ⟨wr.heap.size + 1, 7, none⟩) (by simp) (.slice (some ⟨h, 0, none⟩) v.op.s.length v.op.s.length)
        have hB4 := hB.far (p := ⟨wr.heap.size + 1, 7, none⟩) (by simp; omega) (.slice (some ⟨h, 0, none⟩) v.op.s.length v.op.s.length)
        have hl4 : Later wr (w3.setCell ⟨wr.heap.size + 1, 7, none⟩ (.slice (some ⟨h, 0, none⟩) v.op.s.length v.op.s.length)) := hl3'.set (by simp) _
        have hcp4 := Hcp.out.later hl4
        have hbG4 := hl4.blk HbG.out
        have hba4 := hl4.blk Hba.out
        have hbR4 := hl4.blk HbR.out
        have hlw4 := Hlw.out.trans hl4
        have hNA4 := HNA.out.below hlw4
        have HB := Lib.hid hB
        have Hl3' := Lib.hid hl3'
        have Hkn3 := Lib.hid hkn3
        have Hko3 := Lib.hid hko3
        have Hko4 := Lib.hid hko4
        have Hkn4 := Lib.hid hkn4
        have HB4 := Lib.hid hB4
        have Hl4 := Lib.hid hl4
        have Hcp4 := Lib.hid hcp4
        have HbG4 := Lib.hid hbG4
        have Hba4 := Lib.hid hba4
        have HbR4 := Lib.hid hbR4
        have Hlw4 := Lib.hid hlw4
        have Hlen := Lib.hid hlen
        have HNA4 := Lib.hid hNA4
        clear hB hl3' hkn3 hko3 hko4 hkn4 hB4 hl4 hcp4 hbG4 hba4 hbR4 hlw4 hlen hNA4
        clear Hcp HbG Hba HbR Hlw Hkn Hko Hl2
        go_wp2_with fail
        go_upto_region 7 with fail
        generalize w3.setCell ⟨wr.heap.size + 1, 7, none⟩ (.slice (some ⟨h, 0, none⟩) v.op.s.length v.op.s.length) = W4 at *
        have u0 : W4.cell? ⟨G, 1, none⟩ = some (.slice (some ⟨g, 0, none⟩) n.nodes.length n.nodes.length) := by rw [HbG4.out.cell]; rfl
        have u1 : W4.cell? ⟨wr.heap.size + 1, 0, none⟩ = some (.int .i64 v.op.kind) := by rw [Hko4.out.cell]; rfl
        have u2 : W4.cell? ⟨wr.heap.size + 1, 1, none⟩ = some (.int .i64 v.op.k) := by rw [Hko4.out.cell]; rfl
        have u3 : W4.cell? ⟨wr.heap.size + 1, 2, none⟩ = some (.int .i64 v.op.width) := by rw [Hko4.out.cell]; rfl
        have u4 : W4.cell? ⟨wr.heap.size + 1, 3, none⟩ = some (.int .i64 v.op.step) := by rw [Hko4.out.cell]; rfl
        have u5 : W4.cell? ⟨wr.heap.size + 1, 4, none⟩ = some (.int .i64 v.op.side) := by rw [Hko4.out.cell]; rfl
        have u6 : W4.cell? ⟨wr.heap.size + 1, 5, none⟩ = some (.int .i64 v.op.frm) := by rw [Hko4.out.cell]; rfl
        have u7 : W4.cell? ⟨wr.heap.size + 1, 6, none⟩ = some (.int .i64 v.op.to) := by rw [Hko4.out.cell]; rfl
        have u8 : W4.cell? ⟨wr.heap.size + 1, 7, none⟩ = some (.slice (some ⟨h, 0, none⟩) v.op.s.length v.op.s.length) := by rw [Hko4.out.cell]; rfl
        have u9 : W4.cell? ⟨wr.heap.size, 8, none⟩ = some (.slice J v.ins.length ic) := by rw [Hkn4.out.cell]; rfl
        have u10 : W4.cell? ⟨wr.heap.size, 9, none⟩ = some (.slice Q v.p.length qc) := by rw [Hkn4.out.cell]; rfl
        have hglt : g < wr.heap.size := by obtain ⟨_, _, _, h, _⟩ := Hcp0.out; exact h.lt
        have hq1 : g ≠ G := fun e => hGg e.symm
        have hq2 : g ≠ wr.heap.size := by omega
        have hq3 : g ≠ wr.heap.size + 1 := by omega
        have k0 : (0 : Int) ≤ (k : Int) := by omega
        have k1 : (k : Int) < (n.nodes.length : Int) := by omega
        go_region_held3 (fun W => W.cell? ⟨G, 1, none⟩ = some (.slice (some ⟨g, 0, none⟩) n.nodes.length n.nodes.length) ∧ W.cell? ⟨wr.heap.size + 1, 0, none⟩ = some (.int .i64 v.op.kind) ∧ W.cell? ⟨wr.heap.size + 1, 1, none⟩ = some (.int .i64 v.op.k) ∧ W.cell? ⟨wr.heap.size + 1, 2, none⟩ = some (.int .i64 v.op.width) ∧ W.cell? ⟨wr.heap.size + 1, 3, none⟩ = some (.int .i64 v.op.step) ∧ W.cell? ⟨wr.heap.size + 1, 4, none⟩ = some (.int .i64 v.op.side) ∧ W.cell? ⟨wr.heap.size + 1, 5, none⟩ = some (.int .i64 v.op.frm) ∧ W.cell? ⟨wr.heap.size + 1, 6, none⟩ = some (.int .i64 v.op.to) ∧ W.cell? ⟨wr.heap.size + 1, 7, none⟩ = some (.slice (some ⟨h, 0, none⟩) v.op.s.length v.op.s.length) ∧ W.cell? ⟨wr.heap.size, 8, none⟩ = some (.slice J v.ins.length ic) ∧ W.cell? ⟨wr.heap.size, 9, none⟩ = some (.slice Q v.p.length qc)) (first | (refine ⟨?_, ?_, ?_, ?_, ?_, ?_, ?_, ?_, ?_, ?_, ?_⟩; (· simp only [World.cell?_setCell_far, hq1, ne_eq, not_false_eq_true]; first | exact Later.cell HL6.out u0 | exact Later.cell HL5.out u0); (· simp only [World.cell?_setCell_far, hq3, ne_eq, not_false_eq_true]; first | exact Later.cell HL6.out u1 | exact Later.cell HL5.out u1); (· simp only [World.cell?_setCell_far, hq3, ne_eq, not_false_eq_true]; first | exact Later.cell HL6.out u2 | exact Later.cell HL5.out u2); (· simp only [World.cell?_setCell_far, hq3, ne_eq, not_false_eq_true]; first | exact Later.cell HL6.out u3 | exact Later.cell HL5.out u3); (· simp only [World.cell?_setCell_far, hq3, ne_eq, not_false_eq_true]; first | exact Later.cell HL6.out u4 | exact Later.cell HL5.out u4); (· simp only [World.cell?_setCell_far, hq3, ne_eq, not_false_eq_true]; first | exact Later.cell HL6.out u5 | exact Later.cell HL5.out u5); (· simp only [World.cell?_setCell_far, hq3, ne_eq, not_false_eq_true]; first | exact Later.cell HL6.out u6 | exact Later.cell HL5.out u6); (· simp only [World.cell?_setCell_far, hq3, ne_eq, not_false_eq_true]; first | exact Later.cell HL6.out u7 | exact Later.cell HL5.out u7); (· simp only [World.cell?_setCell_far, hq3, ne_eq, not_false_eq_true]; first | exact Later.cell HL6.out u8 | exact Later.cell HL5.out u8); (· simp only [World.cell?_setCell_far, hq2, ne_eq, not_false_eq_true]; first | exact Later.cell HL6.out u9 | exact Later.cell HL5.out u9); (· simp only [World.cell?_setCell_far, hq2, ne_eq, not_false_eq_true]; first | exact Later.cell HL6.out u10 | exact Later.cell HL5.out u10)) | (with_reducible exact ⟨u0, u1, u2, u3, u4, u5, u6, u7, u8, u9, u10⟩) | exact ⟨Later.cell (show Later W4 _ by repeat (first | (with_reducible exact Later.refl _) | (with_reducible apply Later.drew) | (with_reducible apply Later.alloc) | (with_reducible refine Later.call ?_ (by assumption)))) u0, Later.cell (show Later W4 _ by repeat (first | (with_reducible exact Later.refl _) | (with_reducible apply Later.drew) | (with_reducible apply Later.alloc) | (with_reducible refine Later.call ?_ (by assumption)))) u1, Later.cell (show Later W4 _ by repeat (first | (with_reducible exact Later.refl _) | (with_reducible apply Later.drew) | (with_reducible apply Later.alloc) | (with_reducible refine Later.call ?_ (by assumption)))) u2, Later.cell (show Later W4 _ by repeat (first | (with_reducible exact Later.refl _) | (with_reducible apply Later.drew) | (with_reducible apply Later.alloc) | (with_reducible refine Later.call ?_ (by assumption)))) u3, Later.cell (show Later W4 _ by repeat (first | (with_reducible exact Later.refl _) | (with_reducible apply Later.drew) | (with_reducible apply Later.alloc) | (with_reducible refine Later.call ?_ (by assumption)))) u4, Later.cell (show Later W4 _ by repeat (first | (with_reducible exact Later.refl _) | (with_reducible apply Later.drew) | (with_reducible apply Later.alloc) | (with_reducible refine Later.call ?_ (by assumption)))) u5, Later.cell (show Later W4 _ by repeat (first | (with_reducible exact Later.refl _) | (with_reducible apply Later.drew) | (with_reducible apply Later.alloc) | (with_reducible refine Later.call ?_ (by assumption)))) u6, Later.cell (show Later W4 _ by repeat (first | (with_reducible exact Later.refl _) | (with_reducible apply Later.drew) | (with_reducible apply Later.alloc) | (with_reducible refine Later.call ?_ (by assumption)))) u7, Later.cell (show Later W4 _ by repeat (first | (with_reducible exact Later.refl _) | (with_reducible apply Later.drew) | (with_reducible apply Later.alloc) | (with_reducible refine Later.call ?_ (by assumption)))) u8, Later.cell (show Later W4 _ by repeat (first | (with_reducible exact Later.refl _) | (with_reducible apply Later.drew) | (with_reducible apply Later.alloc) | (with_reducible refine Later.call ?_ (by assumption)))) u9, Later.cell (show Later W4 _ by repeat (first | (with_reducible exact Later.refl _) | (with_reducible apply Later.drew) | (with_reducible apply Later.alloc) | (with_reducible refine Later.call ?_ (by assumption)))) u10⟩)
          (first
          | (go_at_call 54; refine (clone_ints J ic v.ins _ hl2 (HNA4.out.2.2.1.below (show Later W4 _ by repeat (first | (with_reducible exact Later.refl _) | (with_reducible apply Later.drew) | (with_reducible apply Later.alloc) | (with_reducible refine Later.call ?_ (by assumption)))) (Nat.le_refl _))).mono ?_; rintro e w5 ⟨J', jc', rfl, hJ5, hb5⟩; have HL5 := Lib.hid (show Later W4 w5 by repeat (first | (with_reducible exact Later.refl _) | (with_reducible apply Later.drew) | (with_reducible apply Later.alloc) | (with_reducible refine Later.call ?_ (by assumption)))); obtain ⟨⟨z0, z1, z2, z3, z4, z5, z6, z7, z8, z9, d0, d1, d2, d3, d4, d5, d6, d7, d8, d9⟩, hfz, hput⟩ := Hnext.out _ w5 (Hcp4.out.later (show Later W4 w5 by repeat (first | (with_reducible exact Later.refl _) | (with_reducible apply Later.drew) | (with_reducible apply Later.alloc) | (with_reducible refine Later.call ?_ (by assumption))))); have Hput := Lib.hid hput; clear hput; have fz0 := hfz (k * 10); have fz1 := hfz (k * 10 + 1); have fz2 := hfz (k * 10 + 2); have fz3 := hfz (k * 10 + 3); have fz4 := hfz (k * 10 + 4); have fz5 := hfz (k * 10 + 5); have fz6 := hfz (k * 10 + 6); have fz7 := hfz (k * 10 + 7); have fz8 := hfz (k * 10 + 8); have fz9 := hfz (k * 10 + 9))
          | (go_at_call 55; refine (net_copies Q qc v.p _ hl3 Hlen.out.2.2.2.2.1 (HNA4.out.2.2.2.below (show Later W4 _ by repeat (first | (with_reducible exact Later.refl _) | (with_reducible apply Later.drew) | (with_reducible apply Later.alloc) | (with_reducible refine Later.call ?_ (by assumption)))) (Nat.le_refl _))).mono ?_; rintro e w6 ⟨q', rfl, hF6, hb6⟩; have HL6 := Lib.hid (show Later W4 w6 by repeat (first | (with_reducible exact Later.refl _) | (with_reducible apply Later.drew) | (with_reducible apply Later.alloc) | (with_reducible refine Later.call ?_ (by assumption)))); obtain ⟨⟨z0, z1, z2, z3, z4, z5, z6, z7, z8, z9, d0, d1, d2, d3, d4, d5, d6, d7, d8, d9⟩, hfz, hput⟩ := Hnext.out _ w6 (Hcp4.out.later (show Later W4 w6 by repeat (first | (with_reducible exact Later.refl _) | (with_reducible apply Later.drew) | (with_reducible apply Later.alloc) | (with_reducible refine Later.call ?_ (by assumption))))); have Hput := Lib.hid hput; clear hput; have fz0 := hfz (k * 10); have fz1 := hfz (k * 10 + 1); have fz2 := hfz (k * 10 + 2); have fz3 := hfz (k * 10 + 3); have fz4 := hfz (k * 10 + 4); have fz5 := hfz (k * 10 + 5); have fz6 := hfz (k * 10 + 6); have fz7 := hfz (k * 10 + 7); have fz8 := hfz (k * 10 + 8); have fz9 := hfz (k * 10 + 9)))
        all_goals
          have HF6 := Lib.hid hF6
          have HJ5 := Lib.hid hJ5
          clear hF6 hJ5
          clear u0 u1 u2 u3 u4 u5 u6 u7 u8 u9 u10 d0 d1 d2 d3 d4 d5 d6 d7 d8 d9 hfz fz0 fz1 fz2 fz3 fz4 fz5 fz6 fz7 fz8 fz9
          go_wp2_with fail
          go_roundw
          case rel =>
            have s1 := Hlw4.out.size
            have s5 := HL5.out.size
            have s6 := HL6.out.size
            first
            | (obtain ⟨q1, q2, q3, q4, q5⟩ := copy_step Hput.out (h := h) (J := J') (jc := jc') (q := q') ⟨(show w1.heap.size ≤ h by omega), (HL6.out.blk HB4.out), ownsRow_low (ownsRow_keep (T := 42) HJ5.out (by decide) (Keep.of_later (show Later w5 w6 by repeat (first | (with_reducible exact Later.refl _) | (with_reducible apply Later.drew) | (with_reducible apply Later.alloc) | (with_reducible refine Later.call ?_ (by assumption)))))) (by first | omega | (simp; omega)), (HF6.out.keep (T := 42) (by decide) (by decide) (Keep.of_later (show Later w6 w6 by repeat (first | (with_reducible exact Later.refl _) | (with_reducible apply Later.drew) | (with_reducible apply Later.alloc) | (with_reducible refine Later.call ?_ (by assumption)))))).base (by first | omega | (simp; omega))⟩ (HL6.out.blk HbG4.out) (HL6.out.blk Hba4.out) (HL6.out.blk HbR4.out) (Hlw4.out.trans HL6.out) (by omega); exact ⟨k + 1, by omega, by go_num, q1, q2, q3, q4, q5⟩)
            | (obtain ⟨q1, q2, q3, q4, q5⟩ := copy_step Hput.out (h := h) (J := J') (jc := jc') (q := q') ⟨(show w1.heap.size ≤ h by omega), (HL5.out.blk HB4.out), ownsRow_low (ownsRow_keep (T := 42) HJ5.out (by decide) (Keep.of_later (show Later w5 w5 by repeat (first | (with_reducible exact Later.refl _) | (with_reducible apply Later.drew) | (with_reducible apply Later.alloc) | (with_reducible refine Later.call ?_ (by assumption)))))) (by first | omega | (simp; omega)), (HF6.out.keep (T := 42) (by decide) (by decide) (Keep.of_later (show Later w6 w5 by repeat (first | (with_reducible exact Later.refl _) | (with_reducible apply Later.drew) | (with_reducible apply Later.alloc) | (with_reducible refine Later.call ?_ (by assumption)))))).base (by first | omega | (simp; omega))⟩ (HL5.out.blk HbG4.out) (HL5.out.blk Hba4.out) (HL5.out.blk HbR4.out) (Hlw4.out.trans HL5.out) (by omega); exact ⟨k + 1, by omega, by go_num, q1, q2, q3, q4, q5⟩)
          case measure => simp [intOf]; omega
      · obtain rfl : k = n.nodes.length := by omega
        have g0 := hbG.cell 0
        have g1 := hbG.cell 1
        have f0 := hbR.frozen 0
        have f1 := hbR.frozen 1
        have r0 := hbR.cell 0
        have r1 := hbR.cell 1
        simp at g0 g1 r0 r1
        have er : w1.heap.size = w.heap.size + 1 := Her.out
        rw [er] at f0 f1 r0 r1
        have hkp : Keep 45 wr ((wr.setCell ⟨w.heap.size + 1, 0, none⟩ (.slice (some ⟨a, 0, none⟩) n.inn.length n.inn.length)).setCell ⟨w.heap.size + 1, 1, none⟩ (.slice (some ⟨g, 0, none⟩) n.nodes.length n.nodes.length)) := by
          rw [er] at hbR
          exact (Keep.set_ hbR 0 _).trans (Keep.set_ (hbR.set_ 0 _) 1 _)
        have hba2 := hba.keep (by decide) hkp
        have hcp2 : CpRow w1.heap.size ((wr.setCell ⟨w.heap.size + 1, 0, none⟩ (.slice (some ⟨a, 0, none⟩) n.inn.length n.inn.length)).setCell ⟨w.heap.size + 1, 1, none⟩ (.slice (some ⟨g, 0, none⟩) n.nodes.length n.nodes.length)) g zc n.nodes n.nodes.length := hcp.keep (by decide) (by decide) (by decide) hkp
        have hb5 := (hb0.trans (Below.mono hlw hb0.size)).setCell (p := ⟨w.heap.size + 1, 0, none⟩) (Nat.le_succ _) (.slice (some ⟨a, 0, none⟩) n.inn.length n.inn.length) |>.setCell (p := ⟨w.heap.size + 1, 1, none⟩) (Nat.le_succ _) (.slice (some ⟨g, 0, none⟩) n.nodes.length n.nodes.length)
        have hbR2 : Blk ((wr.setCell ⟨w.heap.size + 1, 0, none⟩ (.slice (some ⟨a, 0, none⟩) n.inn.length n.inn.length)).setCell ⟨w.heap.size + 1, 1, none⟩ (.slice (some ⟨g, 0, none⟩) n.nodes.length n.nodes.length)) (w.heap.size + 1) 45 #[.slice (some ⟨a, 0, none⟩) n.inn.length n.inn.length, .slice (some ⟨g, 0, none⟩) n.nodes.length n.nodes.length] := by rw [er] at hbR; exact hbR.set2 _ _
        have c0 := hbR2.cell 0
        have c1 := hbR2.cell 1
        simp at c0 c1
        clear er
        have Hcp := Lib.hid hcp
        have HbG := Lib.hid hbG
        have Hba := Lib.hid hba
        have HbR := Lib.hid hbR
        have Hlw := Lib.hid hlw
        have Hkp := Lib.hid hkp
        have Hba2 := Lib.hid hba2
        have Hcp2 := Lib.hid hcp2
        have Hb5 := Lib.hid hb5
        have HbR2 := Lib.hid hbR2
        clear hcp hbG hba hbR hlw hkp hba2 hcp2 hb5 hbR2
        go_wp2_with fail
        refine bodyPost_ret (v := .agg #[.slice (some ⟨a, 0, none⟩) n.inn.length n.inn.length, .slice (some ⟨g, 0, none⟩) n.nodes.length n.nodes.length]) (by simp [results, Tryz.results25, go_sem, c0, c1]) rfl ?_
        refine ⟨⟨a, g, zc, rfl, by omega, by omega, Hba2.out, ?_⟩, Hb5.out⟩
        obtain ⟨L, l1, l2, l3, l4⟩ := Hcp2.out
        exact ⟨L, l1, l2, l3, fun x hx => (l4 x hx).base (by omega)⟩
end Go.Proofs.YtkmhagjdafeebaaGreat
/- Layer 26: Task.check and New for a fitting task without data: contracts. -/
namespace Go.Proofs.YtkmhagjdafeebaaGreat
open Go.RowKit
abbrev hy0 : Value := .agg #[.int .i64 0, .int .i64 0, .int .i64 0, .int .i64 0, .int .i64 0, .int .i64 0]
set_option maxHeartbeats 4000000 in
set_option maxRecDepth 20000 in
theorem hyper_zero (w : World) : Calls Tryz.prog 48 #[.agg #[.int .i64 0, .int .i64 0, .int .i64 0, .int .i64 0, .int .i64 0, .int .i64 0]] w fun e w' => e = .returned (.bool true) ∧ Below w.heap.size w w' := by
  have hk0 := Blk.new w 51 #[.int .i64 0, .int .i64 0, .int .i64 0, .int .i64 0, .int .i64 0, .int .i64 0]
  have h00 := (Later.refl w).alloc (.cells #[.int .i64 0, .int .i64 0, .int .i64 0, .int .i64 0, .int .i64 0, .int .i64 0] 51)
  have Hk0 := Lib.hid hk0
  have H00 := Lib.hid h00
  clear hk0 h00
  go_enter Tryz.func48, Tryz.ntmps48
  go_upto_region 1 with fail
  generalize w.alloc (.cells #[.int .i64 0, .int .i64 0, .int .i64 0, .int .i64 0, .int .i64 0, .int .i64 0] 51) = w0 at *
  have a0 := Hk0.out.cell 0
  have a1 := Hk0.out.cell 1
  have a2 := Hk0.out.cell 2
  have a3 := Hk0.out.cell 3
  have a4 := Hk0.out.cell 4
  have a5 := Hk0.out.cell 5
  simp at a0 a1 a2 a3 a4 a5
  go_wp2_with fail
  go_loopw [16] (fun i wx => ∃ k : Nat, k ≤ 5 ∧ i = .int .i64 (k : Int) ∧ wx = w0) (fun i _ => 5 - (intOf i).toNat)
  case atStart => exact ⟨0, by omega, rfl, rfl⟩
  case round =>
    obtain ⟨k, hk, rfl, rfl⟩ := hrel
    by_cases hlt : k < 5
    · have hc : k = 0 ∨ k = 1 ∨ k = 2 ∨ k = 3 ∨ k = 4 := by omega
      rcases hc with rfl | rfl | rfl | rfl | rfl
      all_goals
        have i0 : ∀ w, (Instr.index 150 (.agg #[.int .i64 0, .int .i64 0, .int .i64 0, .int .i64 0, .int .i64 0]) (.int .i64 0)).run Tryz.prog w = .ok (.int .i64 0) w := fun _ => by kernel_rfl
        have i1 : ∀ w, (Instr.index 150 (.agg #[.int .i64 0, .int .i64 0, .int .i64 0, .int .i64 0, .int .i64 0]) (.int .i64 1)).run Tryz.prog w = .ok (.int .i64 0) w := fun _ => by kernel_rfl
        have i2 : ∀ w, (Instr.index 150 (.agg #[.int .i64 0, .int .i64 0, .int .i64 0, .int .i64 0, .int .i64 0]) (.int .i64 2)).run Tryz.prog w = .ok (.int .i64 0) w := fun _ => by kernel_rfl
        have i3 : ∀ w, (Instr.index 150 (.agg #[.int .i64 0, .int .i64 0, .int .i64 0, .int .i64 0, .int .i64 0]) (.int .i64 3)).run Tryz.prog w = .ok (.int .i64 0) w := fun _ => by kernel_rfl
        have i4 : ∀ w, (Instr.index 150 (.agg #[.int .i64 0, .int .i64 0, .int .i64 0, .int .i64 0, .int .i64 0]) (.int .i64 4)).run Tryz.prog w = .ok (.int .i64 0) w := fun _ => by kernel_rfl
        go_wp2_with fail
        go_roundw
        case rel => first | exact ⟨1, by omega, by go_num, trivial⟩ | exact ⟨2, by omega, by go_num, trivial⟩ | exact ⟨3, by omega, by go_num, trivial⟩ | exact ⟨4, by omega, by go_num, trivial⟩ | exact ⟨5, by omega, by go_num, trivial⟩
        case measure => simp [intOf]
    · obtain rfl : k = 5 := by omega
      go_wp2_with fail
      go_ret
      exact ⟨rfl, H00.out⟩
set_option maxHeartbeats 8000000 in
set_option maxRecDepth 20000 in
theorem task_check (A N P : Option Addr) (c d cp : Nat) (n : NetD) (ps : List Ten) (w : World) (hok : n.ok) (hR : NetR w A N n) (hd : n.nodes.length ≤ d) (hP : Tns w P ps) (lP : ps.length ≤ 1048576)
    (hck : Nt.check n = 0) (hin : Sh.right n.inn = true) (hft : Pn.fits n ps ⟨n.inn, List.replicate (Safe.prod n.inn).toNat 0⟩ = 0) :
    Calls Tryz.prog 23 #[.agg #[.slice A n.inn.length c, .slice N n.nodes.length d, .int .i64 0, .int .i64 0, .int .i64 0, .int .i64 0, .int .i64 0, .int .i64 0, .int .i64 1, .int .i64 1000, .int .i64 1, .slice none 0 0], .slice P ps.length cp] w fun e w' => e = .returned (.int .i64 0) ∧ Below w.heap.size w w' := by
  have hk0 := Blk.new w 53 #[.slice A n.inn.length c, .slice N n.nodes.length d, .int .i64 0, .int .i64 0, .int .i64 0, .int .i64 0, .int .i64 0, .int .i64 0, .int .i64 1, .int .i64 1000, .int .i64 1, .slice none 0 0]
  have h00 := (Later.refl w).alloc (.cells #[.slice A n.inn.length c, .slice N n.nodes.length d, .int .i64 0, .int .i64 0, .int .i64 0, .int .i64 0, .int .i64 0, .int .i64 0, .int .i64 1, .int .i64 1000, .int .i64 1, .slice none 0 0] 53)
  have hil := (Sh.right_mul hin).2.1
  have hpr := (Sh.right_mul hin).2.2.2.2
  have Hok := Lib.hid hok
  have HR := Lib.hid hR
  have HP := Lib.hid hP
  have Hk0 := Lib.hid hk0
  have H00 := Lib.hid h00
  have Hck := Lib.hid hck
  have Hin := Lib.hid hin
  have Hft := Lib.hid hft
  have Hpr := Lib.hid hpr
  clear hok hR hP hk0 h00 hck hin hft hpr
  go_enter Tryz.func23, Tryz.ntmps23
  go_upto_region 1 with fail
  generalize w.alloc (.cells #[.slice A n.inn.length c, .slice N n.nodes.length d, .int .i64 0, .int .i64 0, .int .i64 0, .int .i64 0, .int .i64 0, .int .i64 0, .int .i64 1, .int .i64 1000, .int .i64 1, .slice none 0 0] 53) = w0 at *
  have a0 := Hk0.out.cell 0
  have a1 := Hk0.out.cell 1
  simp at a0 a1
  go_wp2_with fail
  refine (net_check A N c d n w0 Hok.out (HR.out.below H00.out (Nat.le_refl _)) hd).mono ?_
  rintro e w1 ⟨rfl, h1⟩
  have h01 : Later w0 w1 := h1
  have hk1 := h01.blk Hk0.out
  rw [Hck.out]
  clear a0 a1 h1
  have a2 := hk1.cell 2
  have a3 := hk1.cell 3
  have a4 := hk1.cell 4
  have a5 := hk1.cell 5
  have a6 := hk1.cell 6
  have a7 := hk1.cell 7
  simp at a2 a3 a4 a5 a6 a7
  have H01 := Lib.hid h01
  have Hk1 := Lib.hid hk1
  clear h01 hk1
  go_wp2_with fail
  refine (hyper_zero w1).mono ?_
  rintro e w2 ⟨rfl, h2⟩
  have h02 := H01.out.call h2
  have hk2 := (show Later w1 w2 from h2).blk Hk1.out
  clear a2 a3 a4 a5 a6 a7 h2
  have a0 := hk2.cell 0
  have a10 := hk2.cell 10
  have a11 := hk2.cell 11
  simp at a0 a10 a11
  have H02 := Lib.hid h02
  have Hk2 := Lib.hid hk2
  clear h02 hk2
  go_wp2_with fail
  refine (tensor_make A c n.inn 0 w2 (by omega) (HR.out.1.below (H00.out.trans H02.out) (Nat.le_refl _))).mono ?_
  rintro e w3 ⟨hm, h3⟩
  rcases hm with ⟨hf, -⟩ | ⟨-, v, rfl, ⟨g, h, rfl, hg, hh, hgb, hhb⟩⟩
  · rw [Hin.out] at hf; cases hf
  have hzl : (List.replicate (Safe.prod n.inn).toNat (0 : Int)).length ≤ 65536 := by have := Hpr.out; simp only [List.length_replicate]; omega
  have hzz : ∀ z ∈ List.replicate (Safe.prod n.inn).toNat (0 : Int), Fx.In z := fun z hz => by simp at hz; rw [hz.2]; unfold Fx.In; omega
  simp only at hgb hhb
  generalize List.replicate (Safe.prod n.inn).toNat (0 : Int) = zs at *
  have h03 := H02.out.call h3
  have hk3 := (show Later w2 w3 from h3).blk Hk2.out
  have hx3 := Blk.new w3 26 #[.slice (some ⟨g, 0, none⟩) n.inn.length n.inn.length, .slice (some ⟨h, 0, none⟩) zs.length zs.length]
  have h34 := (Later.refl w3).alloc (.cells #[.slice (some ⟨g, 0, none⟩) n.inn.length n.inn.length, .slice (some ⟨h, 0, none⟩) zs.length zs.length] 26)
  have hX : TenIn w3 (some ⟨g, 0, none⟩) (some ⟨h, 0, none⟩) n.inn.length zs.length ⟨n.inn, zs⟩ :=
    ⟨⟨hgb.ints, hhb.ints⟩, Nat.le_refl _, (show n.inn.length ≤ 9223372036854775807 by omega), Nat.le_refl _, (show zs.length ≤ 9223372036854775807 by omega), (show n.inn.length ≤ 1048576 by omega), (show zs.length ≤ 1048576 by omega), hzz⟩
  have hX4 := hX.later h34
  have h04 := h03.trans h34
  have hk4 := h34.blk hk3
  clear a0 a10 a11 hgb hhb hX hk3 h3 h03 h34 hzz
  have HX4 := Lib.hid hX4
  have H04 := Lib.hid h04
  have Hk4 := Lib.hid hk4
  have Hx3 := Lib.hid hx3
  clear hX4 h04 hk4 hx3
  go_upto_region 9 with fail
  show Code.wp _ _ _ _ (w3.alloc (.cells #[.slice (some ⟨g, 0, none⟩) n.inn.length n.inn.length, .slice (some ⟨h, 0, none⟩) zs.length zs.length] 26))
  generalize w3.alloc (.cells #[.slice (some ⟨g, 0, none⟩) n.inn.length n.inn.length, .slice (some ⟨h, 0, none⟩) zs.length zs.length] 26) = w4 at *
  have HF := Lib.hid fun (X : World) (l : Later w4 X) => plain_fits A N P (some ⟨g, 0, none⟩) (some ⟨h, 0, none⟩) c d cp n.inn.length zs.length n ps ⟨n.inn, zs⟩ X Hok.out (HR.out.below ((H00.out.trans H04.out).trans l) (Nat.le_refl _)) hd (HP.out.later ((H00.out.trans H04.out).trans l)) lP (HX4.out.later l)
  have a0 := Hk4.out.cell 0
  have a1 := Hk4.out.cell 1
  have x0 := Hx3.out.cell 0
  have x1 := Hx3.out.cell 1
  simp only [List.getElem?_toArray, List.getElem?_cons_zero, List.getElem?_cons_succ] at a0 a1 x0 x1
  go_wp2_with fail
  refine (HF.out _ (Later.refl _)).mono ?_
  rintro e w5 ⟨rfl, h5⟩
  rw [Hft.out]
  have h05 := H04.out.call h5
  have hk5 := (show Later w4 w5 from h5).blk Hk4.out
  have a11 := hk5.cell 11
  simp only [List.getElem?_toArray, List.getElem?_cons_zero, List.getElem?_cons_succ] at a11
  clear a0 a1 x0 x1 h5 hk5
  have H05 := Lib.hid h05
  clear h05
  go_wp2_with fail
  go_loopw [56] (fun i wx => i = .int .i64 0 ∧ wx = w5) (fun _ _ => 0)
  case atStart => exact ⟨rfl, rfl⟩
  case round =>
    obtain ⟨rfl, rfl⟩ := hrel
    go_wp2_with fail
    go_ret
    exact ⟨rfl, H00.out.trans H05.out⟩
end Go.Proofs.YtkmhagjdafeebaaGreat
/- Layer 26: New for a fitting task without data: contract. -/
namespace Go.Proofs.YtkmhagjdafeebaaGreat
open Go.RowKit
def taskV (A N D : Option Addr) (c d : Nat) (n : NetD) : Array Value :=
  #[.slice A n.inn.length c, .slice N n.nodes.length d, .int .i64 0, .int .i64 0, .int .i64 0, .int .i64 0, .int .i64 0, .int .i64 0, .int .i64 1, .int .i64 1000, .int .i64 1, .slice D 0 0]
theorem task_net {w : World} {p : Nat} {T : TypeId} {A N A2 N2 D : Option Addr} {c d c2 d2 : Nat} {n : NetD} (h : Blk w p T (taskV A N D c d n)) :
    Blk ((w.setCell ⟨p, 0, none⟩ (.slice A2 n.inn.length c2)).setCell ⟨p, 1, none⟩ (.slice N2 n.nodes.length d2)) p T (taskV A2 N2 D c2 d2 n) := (h.set_ 0 _).set_ 1 _
theorem task_data {w : World} {p : Nat} {T : TypeId} {A N D D2 : Option Addr} {c d : Nat} {n : NetD} (h : Blk w p T (taskV A N D c d n)) :
    Blk (w.setCell ⟨p, 11, none⟩ (.slice D2 0 0)) p T (taskV A N D2 c d n) := h.set_ 11 _
def sav0 (ts : List Ten) : Sav := ⟨ts, ts.map zeroT, []⟩
def NewTr (n : NetD) (ts : List Ten) (w : World) (e : Ending) (w' : World) : Prop :=
  ∃ g wp A N P V c d D, e = .returned (.tuple #[.pointer (some ⟨g, 0, none⟩), .int .i64 0]) ∧ w.heap.size ≤ g ∧ TrR g wp A N P V none c d ts.length ts.length 0 D n (sav0 ts) w' ∧ Below w.heap.size w w'
set_option maxHeartbeats 8000000 in
set_option maxRecDepth 20000 in
theorem train_new (A N P : Option Addr) (c d cp : Nat) (n : NetD) (ps : List Ten) (w : World) (hok : n.ok) (hR : NetR w A N n) (hd : n.nodes.length ≤ d) (hP : Tns w P ps) (lP : ps.length ≤ 1000000)
    (hck : Nt.check n = 0) (hin : Sh.right n.inn = true) (hft : Pn.fits n ps ⟨n.inn, List.replicate (Safe.prod n.inn).toNat 0⟩ = 0) (hr : ps.all Tn.right = true) (hs : Tn.small ps) (hT : Tens w P ps) :
    Calls Tryz.prog 8 #[.agg #[.slice A n.inn.length c, .slice N n.nodes.length d, .int .i64 0, .int .i64 0, .int .i64 0, .int .i64 0, .int .i64 0, .int .i64 0, .int .i64 1, .int .i64 1000, .int .i64 1, .slice none 0 0], .slice P ps.length cp] w (NewTr n ps w) := by
  have hk0 : Blk (w.alloc (.cells (taskV A N none c d n) 53)) w.heap.size 53 (taskV A N none c d n) := Blk.new w _ _
  have h00 := (Later.refl w).alloc (.cells (taskV A N none c d n) 53)
  have hsz0 : (w.alloc (.cells (taskV A N none c d n) 53)).heap.size = w.heap.size + 1 := by simp
  have Hok := Lib.hid hok
  have HR := Lib.hid hR
  have HP := Lib.hid hP
  have Hk0 := Lib.hid hk0
  have H00 := Lib.hid h00
  have Hck := Lib.hid hck
  have Hin := Lib.hid hin
  have Hft := Lib.hid hft
  have Hr := Lib.hid hr
  have Hs := Lib.hid hs
  have HT := Lib.hid hT
  clear hok hR hP hk0 h00 hck hin hft hr hs hT
  go_enter Tryz.func8, Tryz.ntmps8
  go_upto_region 1 with fail
  show Code.wp _ _ _ _ (w.alloc (.cells (taskV A N none c d n) 53))
  generalize w.alloc (.cells (taskV A N none c d n) 53) = w0 at *
  have a0 : w0.cell? ⟨w.heap.size, 0, none⟩ = some (.slice A n.inn.length c) := Hk0.out.cell 0
  have a1 : w0.cell? ⟨w.heap.size, 1, none⟩ = some (.slice N n.nodes.length d) := Hk0.out.cell 1
  have a2 : w0.cell? ⟨w.heap.size, 2, none⟩ = some (.int .i64 0) := Hk0.out.cell 2
  have a3 : w0.cell? ⟨w.heap.size, 3, none⟩ = some (.int .i64 0) := Hk0.out.cell 3
  have a4 : w0.cell? ⟨w.heap.size, 4, none⟩ = some (.int .i64 0) := Hk0.out.cell 4
  have a5 : w0.cell? ⟨w.heap.size, 5, none⟩ = some (.int .i64 0) := Hk0.out.cell 5
  have a6 : w0.cell? ⟨w.heap.size, 6, none⟩ = some (.int .i64 0) := Hk0.out.cell 6
  have a7 : w0.cell? ⟨w.heap.size, 7, none⟩ = some (.int .i64 0) := Hk0.out.cell 7
  have a8 : w0.cell? ⟨w.heap.size, 8, none⟩ = some (.int .i64 1) := Hk0.out.cell 8
  have a9 : w0.cell? ⟨w.heap.size, 9, none⟩ = some (.int .i64 1000) := Hk0.out.cell 9
  have a10 : w0.cell? ⟨w.heap.size, 10, none⟩ = some (.int .i64 1) := Hk0.out.cell 10
  have a11 : w0.cell? ⟨w.heap.size, 11, none⟩ = some (.slice none 0 0) := Hk0.out.cell 11
  go_wp2_with fail
  refine (task_check A N P c d cp n ps w0 Hok.out (HR.out.below H00.out (Nat.le_refl _)) hd (HP.out.later H00.out) (by omega) Hck.out Hin.out Hft.out).mono ?_
  rintro e w1 ⟨rfl, h1⟩
  have h01 : Later w0 w1 := h1
  clear a0 a1 a2 a3 a4 a5 a6 a7 a8 a9 a10 a11 h1
  have H01 := Lib.hid h01
  clear h01
  go_wp2_with fail
  refine (optim_begin P cp ps w1 lP Hs.out (HT.out.below (H00.out.trans H01.out) (Nat.le_refl _)) Hr.out).mono ?_
  rintro e w2 ⟨G, L, H, M, rfl, hL, hM, hG, hH, h2⟩
  have h12 : Later w1 w2 := h2
  have hz3 := Blk.new w2 29 #[.slice (some ⟨G, 0, none⟩) ps.length ps.length, .slice (some ⟨H, 0, none⟩) ps.length ps.length]
  have h23 := (Later.refl w2).alloc (.cells #[.slice (some ⟨G, 0, none⟩) ps.length ps.length, .slice (some ⟨H, 0, none⟩) ps.length ps.length] 29)
  have h03 := (H01.out.trans h12).trans h23
  have hk3 := h03.blk Hk0.out
  have hG3 := hG.later h23
  have hH3 := hH.later h23
  have hs12 := h12.size
  have hs01 := H01.out.size
  have hsz3 : (w2.alloc (.cells #[.slice (some ⟨G, 0, none⟩) ps.length ps.length, .slice (some ⟨H, 0, none⟩) ps.length ps.length] 29)).heap.size = w2.heap.size + 1 := by simp
  clear hG hH h2 h23 h12
  have HL := Lib.hid hL
  have HM := Lib.hid hM
  have Hz3 := Lib.hid hz3
  have H03 := Lib.hid h03
  have Hk3 := Lib.hid hk3
  have HG3 := Lib.hid hG3
  have HH3 := Lib.hid hH3
  clear hL hM hz3 h03 hk3 hG3 hH3
  go_upto_region 5 with fail
  show Code.wp _ _ _ _ (w2.alloc (.cells #[.slice (some ⟨G, 0, none⟩) ps.length ps.length, .slice (some ⟨H, 0, none⟩) ps.length ps.length] 29))
  generalize w2.alloc (.cells #[.slice (some ⟨G, 0, none⟩) ps.length ps.length, .slice (some ⟨H, 0, none⟩) ps.length ps.length] 29) = w3 at *
  have a0 : w3.cell? ⟨w.heap.size, 0, none⟩ = some (.slice A n.inn.length c) := Hk3.out.cell 0
  have a1 : w3.cell? ⟨w.heap.size, 1, none⟩ = some (.slice N n.nodes.length d) := Hk3.out.cell 1
  go_wp2_with fail
  refine (net_copy A N c d n w3 Hok.out (HR.out.below (H00.out.trans H03.out) (Nat.le_refl _))).mono ?_
  rintro e w4 ⟨⟨ga, gN, zc, rfl, hal, hgl, hga, hgN⟩, h4⟩
  have h34 : Later w3 w4 := h4
  have hk4 := h34.blk Hk3.out
  have hs34 := h34.size
  have hs03 := H03.out.size
  have f0 := hk4.frozen 0
  have f1 := hk4.frozen 1
  have d0 := h34.cell a0
  have d1 := h34.cell a1
  have hk5 := task_net (A2 := some ⟨ga, 0, none⟩) (N2 := some ⟨gN, 0, none⟩) (c2 := n.inn.length) (d2 := n.nodes.length) hk4
  have hkp : Keep 53 w4 ((w4.setCell ⟨w.heap.size, 0, none⟩ (.slice (some ⟨ga, 0, none⟩) n.inn.length n.inn.length)).setCell ⟨w.heap.size, 1, none⟩ (.slice (some ⟨gN, 0, none⟩) n.nodes.length n.nodes.length)) := (Keep.set_ hk4 0 _).trans (Keep.set_ (hk4.set_ 0 _) 1 _)
  have hga5 := hga.keep (by decide) hkp
  have hgN5 := hgN.keep (by decide) (by decide) (by decide) hkp
  have hz5 := (h34.blk Hz3.out).keep (by decide) hkp
  have hG5 := (((HG3.out.later h34).base_ (show w.heap.size + 1 ≤ w1.heap.size by omega)).far (p := ⟨w.heap.size, 0, none⟩) (by simp) (.slice (some ⟨ga, 0, none⟩) n.inn.length n.inn.length)).far (p := ⟨w.heap.size, 1, none⟩) (by simp) (.slice (some ⟨gN, 0, none⟩) n.nodes.length n.nodes.length)
  have hH5 := (((HH3.out.later h34).base_ (show w.heap.size + 1 ≤ w1.heap.size by omega)).far (p := ⟨w.heap.size, 0, none⟩) (by simp) (.slice (some ⟨ga, 0, none⟩) n.inn.length n.inn.length)).far (p := ⟨w.heap.size, 1, none⟩) (by simp) (.slice (some ⟨gN, 0, none⟩) n.nodes.length n.nodes.length)
  have hl5 : Later w ((w4.setCell ⟨w.heap.size, 0, none⟩ (.slice (some ⟨ga, 0, none⟩) n.inn.length n.inn.length)).setCell ⟨w.heap.size, 1, none⟩ (.slice (some ⟨gN, 0, none⟩) n.nodes.length n.nodes.length)) := ((((H00.out.trans H03.out).trans h34).set (p := ⟨w.heap.size, 0, none⟩) (Nat.le_refl _) _).set (p := ⟨w.heap.size, 1, none⟩) (Nat.le_refl _) _)
  have hs5 : ((w4.setCell ⟨w.heap.size, 0, none⟩ (.slice (some ⟨ga, 0, none⟩) n.inn.length n.inn.length)).setCell ⟨w.heap.size, 1, none⟩ (.slice (some ⟨gN, 0, none⟩) n.nodes.length n.nodes.length)).heap.size ≥ w4.heap.size := by simp
  clear a0 a1 hk4 hkp h4 h34 hga hgN
  have Hk5 := Lib.hid hk5
  have Hga5 := Lib.hid hga5
  have HgN5 := Lib.hid hgN5
  have Hz5 := Lib.hid hz5
  have HG5 := Lib.hid hG5
  have HH5 := Lib.hid hH5
  have Hl5 := Lib.hid hl5
  clear hk5 hga5 hgN5 hz5 hG5 hH5 hl5
  go_upto_region 8 with fail
  generalize (w4.setCell ⟨w.heap.size, 0, none⟩ (.slice (some ⟨ga, 0, none⟩) n.inn.length n.inn.length)).setCell ⟨w.heap.size, 1, none⟩ (.slice (some ⟨gN, 0, none⟩) n.nodes.length n.nodes.length) = w5 at *
  clear d0 d1 f0 f1
  have a11 : w5.cell? ⟨w.heap.size, 11, none⟩ = some (.slice none 0 0) := Hk5.out.cell 11
  obtain ⟨i0, hi, hz0, hz1, hz2⟩ := info_parts tenC_info
  go_wp2_with (at_make; refine wpList_make_full _ rfl _ _ 27 rfl w5.heap.size 26 i0 (.agg #[.slice none 0 0, .slice none 0 0]) 2 Tryz.underlying27 hi hz0 hz1 _ _ _ _ 0 rfl rfl (by first | rfl | simp) (by first | rfl | simp) ?b2 ?b3 (Nat.le_refl _) ?_)
  case b2 => rw [hz2]; omega
  case b3 => unfold maxLen; omega
  intro w6 hown hgrow
  clear hi hz0 hz1 hz2
  have h56 : Later w5 w6 := (Below.refl _ w5).grown hgrow (Nat.le_refl _) (by simp)
  have b11 := h56.cell a11
  clear hown hgrow a11
  have H56 := Lib.hid h56
  clear h56
  go_wp2_with fail
  go_loopw [37] (fun i wx => i = .int .i64 0 ∧ wx = w6) (fun _ _ => 0)
  case atStart => exact ⟨rfl, rfl⟩
  case round =>
    obtain ⟨rfl, rfl⟩ := hrel
    have hk6 := H56.out.blk Hk5.out
    have f11 := hk6.frozen 11
    have hk7 := task_data (D2 := some ⟨w5.heap.size, 0, none⟩) hk6
    have hkp7 : Keep 53 wr (wr.setCell ⟨w.heap.size, 11, none⟩ (.slice (some ⟨w5.heap.size, 0, none⟩) 0 0)) := Keep.set_ hk6 11 _
    have hga7 := (H56.out.blk Hga5.out).keep (by decide) hkp7
    have hgN7 := (HgN5.out.later H56.out).keep (by decide) (by decide) (by decide) hkp7
    have hz7 := (H56.out.blk Hz5.out).keep (by decide) hkp7
    have hG7 := (HG5.out.later H56.out).far (p := ⟨w.heap.size, 11, none⟩) (by simp) (.slice (some ⟨w5.heap.size, 0, none⟩) 0 0)
    have hH7 := (HH5.out.later H56.out).far (p := ⟨w.heap.size, 11, none⟩) (by simp) (.slice (some ⟨w5.heap.size, 0, none⟩) 0 0)
    have hl7 := (Hl5.out.trans H56.out).set (p := ⟨w.heap.size, 11, none⟩) (Nat.le_refl _) (.slice (some ⟨w5.heap.size, 0, none⟩) 0 0)
    have hs7 : (wr.setCell ⟨w.heap.size, 11, none⟩ (.slice (some ⟨w5.heap.size, 0, none⟩) 0 0)).heap.size ≥ wr.heap.size := by simp
    have hs56 := H56.out.size
    clear hk6 hkp7
    have Hk7 := Lib.hid hk7
    have Hga7 := Lib.hid hga7
    have HgN7 := Lib.hid hgN7
    have Hz7 := Lib.hid hz7
    have HG7 := Lib.hid hG7
    have HH7 := Lib.hid hH7
    have Hl7 := Lib.hid hl7
    clear hk7 hga7 hgN7 hz7 hG7 hH7 hl7
    go_upto_region 15 with fail
    generalize wr.setCell ⟨w.heap.size, 11, none⟩ (.slice (some ⟨w5.heap.size, 0, none⟩) 0 0) = w7 at *
    clear b11 f11
    have a0 : w7.cell? ⟨w.heap.size, 0, none⟩ = some (.slice (some ⟨ga, 0, none⟩) n.inn.length n.inn.length) := Hk7.out.cell 0
    have a1 : w7.cell? ⟨w.heap.size, 1, none⟩ = some (.slice (some ⟨gN, 0, none⟩) n.nodes.length n.nodes.length) := Hk7.out.cell 1
    have a2 : w7.cell? ⟨w.heap.size, 2, none⟩ = some (.int .i64 0) := Hk7.out.cell 2
    have a3 : w7.cell? ⟨w.heap.size, 3, none⟩ = some (.int .i64 0) := Hk7.out.cell 3
    have a4 : w7.cell? ⟨w.heap.size, 4, none⟩ = some (.int .i64 0) := Hk7.out.cell 4
    have a5 : w7.cell? ⟨w.heap.size, 5, none⟩ = some (.int .i64 0) := Hk7.out.cell 5
    have a6 : w7.cell? ⟨w.heap.size, 6, none⟩ = some (.int .i64 0) := Hk7.out.cell 6
    have a7 : w7.cell? ⟨w.heap.size, 7, none⟩ = some (.int .i64 0) := Hk7.out.cell 7
    have a8 : w7.cell? ⟨w.heap.size, 8, none⟩ = some (.int .i64 1) := Hk7.out.cell 8
    have a9 : w7.cell? ⟨w.heap.size, 9, none⟩ = some (.int .i64 1000) := Hk7.out.cell 9
    have a10 : w7.cell? ⟨w.heap.size, 10, none⟩ = some (.int .i64 1) := Hk7.out.cell 10
    have a11 : w7.cell? ⟨w.heap.size, 11, none⟩ = some (.slice (some ⟨w5.heap.size, 0, none⟩) 0 0) := Hk7.out.cell 11
    have z0 : w7.cell? ⟨w2.heap.size, 0, none⟩ = some (.slice (some ⟨G, 0, none⟩) ps.length ps.length) := Hz7.out.cell 0
    have z1 : w7.cell? ⟨w2.heap.size, 1, none⟩ = some (.slice (some ⟨H, 0, none⟩) ps.length ps.length) := Hz7.out.cell 1
    have hnet : NetR w7 (some ⟨ga, 0, none⟩) (some ⟨gN, 0, none⟩) n := ⟨Hga7.out.ints, Go.Proofs.YtkmhagjdafeebaaGreat.CpRow.nodes HgN7.out fun v hv => ⟨(Hok.out.2.2 v hv).2.1, (Hok.out.2.2 v hv).2.2.2.1, (Hok.out.2.2 v hv).2.2.2.2.1⟩⟩
    have hP7 : Tens w7 (some ⟨G, 0, none⟩) ps := HL.out ▸ HG7.out.tens fun x hx => Hs.out _ (HL.out ▸ List.mem_map_of_mem hx)
    have hV7 : Tens w7 (some ⟨H, 0, none⟩) (ps.map zeroT) := HM.out ▸ HH7.out.tens fun x hx => by
      have hm : x.1 ∈ ps.map zeroT := HM.out ▸ List.mem_map_of_mem hx
      obtain ⟨t, ht, e⟩ := List.mem_map.1 hm
      have := Hs.out t ht
      rw [← e]
      simpa [zeroT, Ly.zeros] using this
    have hbox := Blk.new w7 87 (Tt.boxV (some ⟨ga, 0, none⟩) (some ⟨gN, 0, none⟩) (some ⟨G, 0, none⟩) (some ⟨H, 0, none⟩) none n.inn.length n.nodes.length ps.length ps.length 0 w5.heap.size n (sav0 ps))
    have hl8 := (Later.refl w7).alloc (.cells (Tt.boxV (some ⟨ga, 0, none⟩) (some ⟨gN, 0, none⟩) (some ⟨G, 0, none⟩) (some ⟨H, 0, none⟩) none n.inn.length n.nodes.length ps.length ps.length 0 w5.heap.size n (sav0 ps)) 87)
    have hsv : SavR w7 (some ⟨G, 0, none⟩) (some ⟨H, 0, none⟩) none (sav0 ps) := ⟨hP7, hV7, fun j hj => absurd hj (by simp [sav0])⟩
    have HR := Lib.hid (show NewTr n ps w (.returned (.tuple #[.pointer (some ⟨w7.heap.size, 0, none⟩), .int .i64 0])) (w7.alloc (.cells (Tt.boxV (some ⟨ga, 0, none⟩) (some ⟨gN, 0, none⟩) (some ⟨G, 0, none⟩) (some ⟨H, 0, none⟩) none n.inn.length n.nodes.length ps.length ps.length 0 w5.heap.size n (sav0 ps)) 87)) from
      ⟨w7.heap.size, w7, _, _, _, _, _, _, _, rfl, by omega, ⟨Nat.le_refl _, hnet, Nat.le_refl _, hl8, hbox, hsv.below hl8 (Nat.le_refl _)⟩, Hl7.out.trans hl8⟩)
    have hbv : Tt.boxV (some ⟨ga, 0, none⟩) (some ⟨gN, 0, none⟩) (some ⟨G, 0, none⟩) (some ⟨H, 0, none⟩) none n.inn.length n.nodes.length ps.length ps.length 0 w5.heap.size n (sav0 ps) = #[.slice (some ⟨ga, 0, none⟩) n.inn.length n.inn.length, .slice (some ⟨gN, 0, none⟩) n.nodes.length n.nodes.length, .int .i64 0, .int .i64 0, .int .i64 0, .int .i64 0, .int .i64 0, .int .i64 0, .int .i64 1, .int .i64 1000, .int .i64 1, .slice (some ⟨w5.heap.size, 0, none⟩) 0 0, .slice (some ⟨G, 0, none⟩) ps.length ps.length, .slice (some ⟨H, 0, none⟩) ps.length ps.length, .slice none 0 0, .bool false, .int .i64 0, .slice none 0 0, .int .i64 0, .int .i64 0, .int .i64 0, .int .i64 0, .int .i64 0] := by simp [Tt.boxV, sav0]
    rw [hbv] at HR
    clear hnet hP7 hV7 hbox hl8 hsv hbv
    go_wp2_with fail
    go_ret2
    exact HR.out
end Go.Proofs.YtkmhagjdafeebaaGreat
/- Layer 27 (keep): metrics, Decode: contracts. -/
namespace Go.Proofs.YtkmhagjdafeebaaGreat
open Go.RowKit

theorem own_whole {w : World} {B g n : Nat} {e : TypeId} {size : Nat} {xs : List Value} (h : w.ownsRow B e size (.slice (some ⟨g, 0, none⟩) n n) n xs) : Blk w g e xs.toArray := by
  rcases h.2 with ⟨hv, _⟩ | ⟨g', cap, cur, hv, _, hh, _, _, hc, ht⟩
  · cases hv
  · injection hv with h1 h2 h3
    injection h1 with h1
    injection h1 with h1
    subst h1 h3
    have : cur.toList = xs := by rw [← ht, List.take_of_length_le]; simp [hc]
    rw [← this]
    exact hh

namespace Kr
theorem nums_add (a b : Nat) (st : Option (List Int)) : nums (a + b) st = ((nums a st).1 ++ (nums b (nums a st).2).1, (nums b (nums a st).2).2) := by
  induction b with
  | zero => simp [nums]
  | succ b ih => rw [← Nat.add_assoc, nums, ih, nums]; simp
/-- Six numbers each. -/
def group : Nat → List Int → List Met
  | 0, _ => []
  | n + 1, l => ⟨l.getD 0 0, l.getD 1 0, l.getD 2 0, l.getD 3 0, l.getD 4 0, l.getD 5 0⟩ :: group n (l.drop 6)
theorem group_len (n : Nat) (l : List Int) : (group n l).length = n := by
  induction n generalizing l with
  | zero => rfl
  | succ n ih => simp [group, ih]
theorem group_get (n : Nat) (l : List Int) (k : Nat) (h : k < (group n l).length) : (group n l)[k] = ⟨l.getD (k * 6) 0, l.getD (k * 6 + 1) 0, l.getD (k * 6 + 2) 0, l.getD (k * 6 + 3) 0, l.getD (k * 6 + 4) 0, l.getD (k * 6 + 5) 0⟩ := by
  induction n generalizing l k with
  | zero => simp [group] at h
  | succ n ih =>
    cases k with
    | zero => simp [group]
    | succ k =>
      simp only [group, List.getElem_cons_succ]
      rw [ih]
      simp only [List.getD_eq_getElem?_getD, List.getElem?_drop]
      congr 3 <;> omega
def metrics1 (c : Int × Int × Option (List Int)) : Int × List Met × Option (List Int) :=
  if c.2.1 ≠ 0 then (c.2.1, [], c.2.2) else if (nums (c.1.toNat * 6) c.2.2).2.isNone then (16, [], none) else (0, group c.1.toNat (nums (c.1.toNat * 6) c.2.2).1, (nums (c.1.toNat * 6) c.2.2).2)
def metrics (st : Option (List Int)) : Int × List Met × Option (List Int) := metrics1 (count 1024 st)
end Kr

theorem Blk.mets {w : World} {g : Nat} {t : TypeId} {l : List Int} {n : Nat} (h : Blk w g t (l.map (Value.int .i64)).toArray) (hl : l.length = n * 6) : Mets w (some ⟨g, 0, none⟩) (Kr.group n l) := fun j hj => by
  rw [Kr.group_get]
  have hj' : j < n := by rw [Kr.group_len] at hj; exact hj
  have hc : ∀ i, i < 6 → w.cell? ⟨g, 0 + j * 6 + i, none⟩ = some (.int .i64 (l.getD (j * 6 + i) 0)) := fun i hi => by
    rw [Nat.zero_add, h.cell (j * 6 + i)]
    have : j * 6 + i < l.length := by omega
    simp [this]
  exact ⟨g, 0, rfl, h.lt, hc 0 (by omega), hc 1 (by omega), hc 2 (by omega), hc 3 (by omega), hc 4 (by omega), hc 5 (by omega)⟩

def MetsN (B : Nat) (w : World) (v : Value) (ms : List Met) : Prop :=
  ∃ g l, v = .slice (some ⟨g, 0, none⟩) ms.length ms.length ∧ B ≤ g ∧ Blk w g 70 (l.map (Value.int .i64)).toArray ∧ l.length = ms.length * 6 ∧ ms = Kr.group ms.length l
def MetP (r : Nat) (st : Option (List Int)) (w : World) (e : Ending) (w' : World) : Prop :=
  ((Kr.metrics st).1 ≠ 0 ∧ e = .returned (.tuple #[.slice none 0 0, .int .i64 (Kr.metrics st).1]) ∨ (Kr.metrics st).1 = 0 ∧ ∃ v, e = .returned (.tuple #[v, .int .i64 0]) ∧ MetsN w.heap.size w' v (Kr.metrics st).2.1) ∧ RdO r (Kr.metrics st).2.2 w' ∧ Fr (fun b => b = r) w w'
set_option maxHeartbeats 4000000 in
set_option maxRecDepth 100000 in
theorem keep_metrics (r : Nat) (st : Option (List Int)) (w : World) (hR : RdO r st w) :
    Calls Tryz.prog 33 #[.pointer (some ⟨r, 0, none⟩)] w (MetP r st w) := by
  obtain ⟨i0, hi, hz0, hz1, hz2⟩ := info_parts met_info
  have hrl := hR.lt
  have hmk : ∀ (w : World), (Instr.makeFunc (.func 31) #[.pointer (some ⟨r, 0, none⟩)] #[]).run Tryz.prog w = .ok (.func (.func 31) #[.pointer (some ⟨r, 0, none⟩)] #[]) w := fun _ => rfl
  have HR := Lib.hid hR
  clear hR
  go_enter Tryz.func33, Tryz.ntmps33
  go_wp2_with fail
  refine (keep_count r 1024 st _ HR.out).mono ?_
  rintro e w1 ⟨rfl, hR1, hF1⟩
  have HST := Lib.hid (show Kr.metrics st = Kr.metrics1 ((Kr.count 1024 st).1, (Kr.count 1024 st).2.1, (Kr.count 1024 st).2.2) from rfl)
  have hc0 : 0 ≤ (Kr.count 1024 st).1 ∧ (Kr.count 1024 st).1 ≤ 1024 := by
    unfold Kr.count
    have h2 := Kr.get_two HR.out.ok
    split
    · simp
    · split <;> simp <;> omega
  generalize (Kr.count 1024 st).1 = n at *
  generalize (Kr.count 1024 st).2.1 = er at *
  generalize (Kr.count 1024 st).2.2 = st1 at *
  clear HR
  by_cases he : er = 0
  · subst he
    obtain ⟨m, rfl⟩ := Int.eq_ofNat_of_zero_le hc0.1
    obtain ⟨_, hm⟩ := hc0
    have HS2 := Lib.hid (show Kr.metrics st = if (Kr.nums (m * 6) st1).2.isNone then (16, [], none) else (0, Kr.group m (Kr.nums (m * 6) st1).1, (Kr.nums (m * 6) st1).2) by rw [HST.out]; simp [Kr.metrics1])
    clear HST
    have HR1 := Lib.hid hR1
    clear hR1
    go_wp2_with (at_make; refine wpList_make_full _ rfl _ _ 30 rfl w.heap.size 70 i0 (.agg #[.int .i64 0, .int .i64 0, .int .i64 0, .int .i64 0, .int .i64 0, .int .i64 0]) 6 Tryz.underlying30 hi hz0 hz1 _ _ _ _ m rfl rfl (by first | rfl | simp) (by first | rfl | simp) ?b2 ?b3 ?b4 ?_)
    case b2 => rw [hz2]; omega
    case b3 => unfold maxLen; omega
    case b4 => exact hF1.size
    intro w2 hown hgrow
    have hblk := own_whole hown
    have hlen := hown.1
    have hS2 := Fr.of_grown (S := fun _ => False) hgrow (by simp)
    have hR2 := HR1.out.fr hS2 (fun b h => h.elim)
    have hF2 := hF1.trans' hS2 (fun _ _ h => h.elim)
    have hgl := hblk.lt
    have hsz1 := hF1.size
    generalize w1.heap.size = g at *
    generalize (madeCells _ _).toList = cur at *
    have HE := Lib.hid (show splice cur 0 ((Kr.nums (0 * 6) st1).1.map (Value.int .i64)) = cur from splice_zero _ _)
    have Hblk := Lib.hid hblk
    have Hlen := Lib.hid hlen
    have HR2 := Lib.hid hR2
    have HF2 := Lib.hid hF2
    clear hblk hlen hR2 hF2
    clear HR1 hown hgrow hS2 hF1
    go_wp2_with fail
    go_loopw [7, 8, 21] (fun _ _ i wr => ∃ k : Nat, k ≤ m ∧ i = .int .i64 k ∧ RdO r (Kr.nums (k * 6) st1).2 wr ∧ Blk wr g 70 (splice cur 0 ((Kr.nums (k * 6) st1).1.map (Value.int .i64))).toArray ∧ Fr (fun b => b = r) w wr) (fun _ _ i _ => m - (intOf i).toNat)
    case atStart => exact ⟨0, Nat.zero_le _, rfl, HR2.out, by rw [HE.out]; exact Hblk.out, HF2.out⟩
    case round =>
      clear HR2 Hblk HF2 HE
      obtain ⟨k, hk, rfl, hR, hG, hF⟩ := hrel
      have hsz := hF.size
      by_cases hlt : k < m
      · have hnl := Kr.nums_len (k * 6) st1
        have hn4 := Kr.nums_add (k * 6) 4 st1
        have hn6 := Kr.nums_add (k * 6 + 4) 2 st1
        have HR := Lib.hid hR
        have HG := Lib.hid hG
        have HF := Lib.hid hF
        have Hnl := Lib.hid hnl
        have Hn4 := Lib.hid hn4
        have Hn6 := Lib.hid hn6
        clear hR hG hF hnl hn4 hn6
        have k0 : (0 : Int) ≤ k := by omega
        have k1 : (k : Int) < m := by omega
        go_wp2_with fail
        have hget4 : ∀ W, RdO r (Kr.nums (k * 6) st1).2 W → Blk W g 70 (splice cur 0 ((Kr.nums (k * 6) st1).1.map (Value.int .i64))).toArray → Blk W wr.heap.size 139 #[.pointer (some ⟨g, k * 6, none⟩), .pointer (some ⟨g, k * 6 + 1, none⟩), .pointer (some ⟨g, k * 6 + 2, none⟩), .pointer (some ⟨g, k * 6 + 3, none⟩)] →
            Calls Tryz.prog 66 #[.func (.func 31) #[.pointer (some ⟨r, 0, none⟩)] #[], .slice (some ⟨wr.heap.size, 0, none⟩) 4 4] W (GetsP r g (k * 6) 4 70 (splice cur 0 ((Kr.nums (k * 6) st1).1.map (Value.int .i64))) (Kr.nums (k * 6) st1).2 W) := fun W h1 h2 h3 =>
          keep_get_int r g (k * 6) 4 _ _ (some ⟨wr.heap.size, 0, none⟩) 4 _ W h1 h2 (fun i hi => ⟨_, _, rfl, h3.lt, by rw [Nat.zero_add, h3.cell i]; match i, hi with | 0, _ => rfl | 1, _ => rfl | 2, _ => rfl | 3, _ => rfl⟩) (by omega) (by rw [length_splice _ _ _ (by simp [Hnl.out, Hlen.out]; omega), Hlen.out]; omega) (by omega) (by intro a e; injection e with e; subst e; have h1 := HR.out.lt; have h2 := HG.out.lt; simp; omega)
        have hget2 : ∀ W, RdO r (Kr.nums (k * 6 + 4) st1).2 W → ∀ p, p ≠ r → p ≠ g → Blk W g 70 (splice cur 0 ((Kr.nums (k * 6 + 4) st1).1.map (Value.int .i64))).toArray → Blk W p 141 #[.pointer (some ⟨g, k * 6 + 4, none⟩), .pointer (some ⟨g, k * 6 + 5, none⟩)] →
            Calls Tryz.prog 67 #[.func (.func 31) #[.pointer (some ⟨r, 0, none⟩)] #[], .slice (some ⟨p, 0, none⟩) 2 2] W (GetsP r g (k * 6 + 4) 2 70 (splice cur 0 ((Kr.nums (k * 6 + 4) st1).1.map (Value.int .i64))) (Kr.nums (k * 6 + 4) st1).2 W) := fun W h1 p hp1 hp2 h2 h3 =>
          keep_get_fix r g (k * 6 + 4) 2 _ _ (some ⟨p, 0, none⟩) 2 _ W h1 h2 (fun i hi => ⟨_, _, rfl, h3.lt, by rw [Nat.zero_add, h3.cell i]; match i, hi with | 0, _ => rfl | 1, _ => rfl⟩) (by omega) (by rw [length_splice _ _ _ (by simp [Kr.nums_len, Hlen.out]; omega), Hlen.out]; omega) (by omega) (by intro a e; injection e with e; subst e; exact ⟨hp1, hp2⟩)
        have hrw := HR.out.lt
        have hgw := HG.out.lt
        have Hget4 := Lib.hid hget4
        have Hget2 := Lib.hid hget2
        clear hget4 hget2
        go_region_held3 (fun _ => True) (exact trivial) (first | (go_at_call 66; refine (Hget4.out _ (HR.out.alloc _).drew ((HG.out.alloc _).drew) (Blk.new wr _ _).drew).mono ?_; rintro e w3 ⟨rfl, hR3, hG3, hF3⟩))
        all_goals
          have hF4 := ((HF.out.alloc (.cells #[.pointer (some ⟨g, k * 6, none⟩), .pointer (some ⟨g, k * 6 + 1, none⟩), .pointer (some ⟨g, k * 6 + 2, none⟩), .pointer (some ⟨g, k * 6 + 3, none⟩)] 139)).drew).trans' hF3 (fun b hb e => by rcases e with e | e; exact e; omega)
          have HR4 := Lib.hid (show RdO r (Kr.nums (k * 6 + 4) st1).2 w3 by rw [Hn4.out]; exact hR3)
          have HG4 := Lib.hid (show Blk w3 g 70 (splice cur 0 ((Kr.nums (k * 6 + 4) st1).1.map (Value.int .i64))).toArray by
            have e := splice_splice cur ((Kr.nums (k * 6) st1).1.map (Value.int .i64)) ((Kr.nums 4 (Kr.nums (k * 6) st1).2).1.map (Value.int .i64)) (by simp [Kr.nums_len, Hlen.out]; omega)
            rw [List.length_map, Hnl.out, ← List.map_append] at e
            rw [Hn4.out]
            show Blk w3 g _ (splice cur 0 (((Kr.nums (k * 6) st1).1 ++ (Kr.nums 4 (Kr.nums (k * 6) st1).2).1).map (Value.int .i64))).toArray
            rw [← e]; exact hG3)
          have hr3 := HR4.out.lt
          have hg3 := HG4.out.lt
          have HF4 := Lib.hid hF4
          clear hF4
          clear HR HG HF hR3 hG3 hF3 Hget4
          go_wp2_with fail
          go_region_held3 (fun _ => True) (exact trivial) (first | (go_at_call 67; refine (Hget2.out _ (HR4.out.alloc _).drew w3.heap.size (by omega) (by omega) ((HG4.out.alloc _).drew) (Blk.new w3 _ _).drew).mono ?_; rintro e w5 ⟨rfl, hR5, hG5, hF5⟩))
          all_goals
            have hF6 := ((HF4.out.alloc (.cells #[.pointer (some ⟨g, k * 6 + 4, none⟩), .pointer (some ⟨g, k * 6 + 5, none⟩)] 141)).drew).trans' hF5 (fun b hb e => by rcases e with e | e; exact e; omega)
            have hk6 : (k + 1) * 6 = k * 6 + 4 + 2 := by omega
            have HR6 := Lib.hid (show RdO r (Kr.nums ((k + 1) * 6) st1).2 w5 by rw [hk6, Hn6.out]; exact hR5)
            have HG6 := Lib.hid (show Blk w5 g 70 (splice cur 0 ((Kr.nums ((k + 1) * 6) st1).1.map (Value.int .i64))).toArray by
              have e := splice_splice cur ((Kr.nums (k * 6 + 4) st1).1.map (Value.int .i64)) ((Kr.nums 2 (Kr.nums (k * 6 + 4) st1).2).1.map (Value.int .i64)) (by simp [Kr.nums_len, Hlen.out]; omega)
              rw [List.length_map, Kr.nums_len, ← List.map_append] at e
              rw [hk6, Hn6.out]
              show Blk w5 g _ (splice cur 0 (((Kr.nums (k * 6 + 4) st1).1 ++ (Kr.nums 2 (Kr.nums (k * 6 + 4) st1).2).1).map (Value.int .i64))).toArray
              rw [← e]; exact hG5)
            have HF6 := Lib.hid hF6
            clear hF6
            clear hR5 hG5 hF5 HR4 HG4 HF4 Hget2 hk6
            go_wp2_with fail
            go_roundw
            case rel => exact ⟨k + 1, by omega, by go_num, HR6.out, HG6.out, HF6.out⟩
            case measure => simp [intOf]; omega
      · obtain rfl : k = m := by omega
        have hnl := Kr.nums_len (k * 6) st1
        rw [splice_full _ _ (by rw [List.length_map, hnl, Hlen.out])] at hG
        have HR := Lib.hid hR
        have HG := Lib.hid hG
        have HF := Lib.hid hF
        have Hnl := Lib.hid hnl
        clear hR hG hF hnl
        go_wp2_with fail
        refine (keep_short r (Kr.nums (k * 6) st1).2 _ HR.out).mono ?_
        rintro e w3 ⟨rfl, rfl⟩
        have HRR := Lib.hid HR.out
        cases hs : (Kr.nums (k * 6) st1).2 with
        | none =>
          have HE := Lib.hid (show Kr.metrics st = (16, [], none) by rw [HS2.out, hs]; rfl)
          have h5 := HR.out
          rw [hs] at h5
          have H5 := Lib.hid h5
          clear h5
          clear hs
          go_wp2_with fail
          go_ret2
          exact ⟨.inl ⟨by rw [HE.out]; simp, by rw [HE.out]; rfl⟩, by rw [HE.out]; exact H5.out, HF.out⟩
        | some bs =>
          have HE := Lib.hid (show Kr.metrics st = (0, Kr.group k (Kr.nums (k * 6) st1).1, some bs) by rw [HS2.out, hs]; rfl)
          have h5 := HR.out
          rw [hs] at h5
          have H5 := Lib.hid h5
          clear h5
          clear hs
          go_wp2_with fail
          go_ret2
          refine ⟨.inr ⟨by rw [HE.out], _, rfl, ?_⟩, by rw [HE.out]; exact H5.out, HF.out⟩
          rw [HE.out]
          refine ⟨g, (Kr.nums (k * 6) st1).1, ?_, by omega, HG.out, ?_, ?_⟩
          · simp only [Kr.group_len]; rfl
          · simp only [Kr.group_len]; exact Hnl.out
          · simp only [Kr.group_len]
  · have hne : (er != 0) = true := by simp [he]
    have HST := Lib.hid (show Kr.metrics st = (er, [], st1) by rw [HST.out]; simp [Kr.metrics1, he])
    have He := Lib.hid he
    have HR1 := Lib.hid hR1
    have HF1 := Lib.hid hF1
    clear he hR1 hF1
    go_wp2_with fail
    go_ret2
    exact ⟨.inl ⟨by rw [HST.out]; exact He.out, by rw [HST.out]; rfl⟩, by rw [HST.out]; exact HR1.out, HF1.out⟩
end Go.Proofs.YtkmhagjdafeebaaGreat
/- Layer 27 (keep): Decode: contract. -/
namespace Go.Proofs.YtkmhagjdafeebaaGreat
open Go.RowKit

namespace Kr
def none_ : Sav := ⟨[], [], []⟩
def dec4 (s : Int × List Ten × List Ten × Option (List Int)) (m : Int × List Met × Option (List Int)) : Int × Sav :=
  if m.1 ≠ 0 then (m.1, none_) else if Fp.endO m.2.2 ≠ 0 then (Fp.endO m.2.2, none_) else (0, ⟨s.2.1, s.2.2.1, m.2.1⟩)
def dec3 (s : Int × List Ten × List Ten × Option (List Int)) : Int × Sav := if s.1 ≠ 0 then (s.1, none_) else dec4 s (metrics s.2.2.2)
def dec2 (g : Int × Option (List Int)) : Int × Sav := if g.1 ≠ 1096042579 then (10, none_) else dec3 (state g.2)
def decode (bs : List Int) : Int × Sav := if Fp.openE bs ≠ 0 then (Fp.openE bs, none_) else dec2 (Fp.get 4 (some (Fp.body bs)))

theorem readP_small {n : Nat} {acc : List Ten} {st : Option (List Int)} (ha : ∀ t ∈ acc, Tn.right t = true) (h : (readP n acc st).1 = 0) : (∀ t ∈ (readP n acc st).2.1, Tn.right t = true) ∧ (readP n acc st).2.1.length = acc.length + n := by
  induction n generalizing acc st with
  | zero => exact ⟨ha, rfl⟩
  | succ n ih =>
    unfold readP at h ⊢
    split
    · rename_i h1; rw [if_pos h1] at h; simp at h
    · rename_i h1
      rw [if_neg h1] at h
      split
      · rename_i h2; rw [if_pos h2] at h; exact absurd h h2
      · rename_i h2
        rw [if_neg h2] at h
        have h0 : (cells (Fp.shapeR st).1 (Fp.shapeR st).2).1 = 0 := by simpa using h2
        obtain ⟨hr, hl⟩ := cells_right h0
        have := ih (acc := acc ++ [⟨(Fp.shapeR st).1, (cells (Fp.shapeR st).1 (Fp.shapeR st).2).2.1⟩]) (by
          intro t ht
          rcases List.mem_append.1 ht with ht | ht
          · exact ha t ht
          · rw [List.mem_singleton] at ht; subst ht
            obtain ⟨_, _, _, _, h1, _⟩ := Sh.right_mul hr
            simp only [Tn.right, hr, Bool.true_and, decide_eq_true_eq, hl]; omega) h
        refine ⟨this.1, ?_⟩
        rw [this.2]; simp; omega
theorem readV_small {fs : List (List Int)} {acc : List Ten} {st : Option (List Int)} (ha : ∀ t ∈ acc, Tn.right t = true) (h : (readV fs acc st).1 = 0) : (∀ t ∈ (readV fs acc st).2.1, Tn.right t = true) ∧ (readV fs acc st).2.1.map (·.s) = acc.map (·.s) ++ fs := by
  induction fs generalizing acc st with
  | nil => exact ⟨ha, by simp [readV]⟩
  | cons f r ih =>
    unfold readV at h ⊢
    split
    · rename_i h2; rw [if_pos h2] at h; exact absurd h h2
    · rename_i h2
      rw [if_neg h2] at h
      have h0 : (cells f st).1 = 0 := by simpa using h2
      obtain ⟨hr, hl⟩ := cells_right h0
      have := ih (acc := acc ++ [⟨f, (cells f st).2.1⟩]) (by
        intro t ht
        rcases List.mem_append.1 ht with ht | ht
        · exact ha t ht
        · rw [List.mem_singleton] at ht; subst ht
          obtain ⟨_, _, _, _, h1, _⟩ := Sh.right_mul hr
          simp only [Tn.right, hr, Bool.true_and, decide_eq_true_eq, hl]; omega) h
      refine ⟨this.1, ?_⟩
      rw [this.2]; simp
theorem count_le {most : Int} {st : Option (List Int)} (h0 : 0 ≤ most) (hb : Fp.okB st) : 0 ≤ (count most st).1 ∧ (count most st).1 ≤ most := by
  unfold count
  have h2 := get_two hb
  split
  · simp; omega
  · split <;> simp <;> omega
/-- What a state that was read is. -/
theorem state_small {st : Option (List Int)} (hb : Fp.okB st) (h : (state st).1 = 0) : Tn.alike (state st).2.1 (state st).2.2.1 = true ∧ (state st).2.1.length ≤ 512 := by
  unfold state state1 at h ⊢
  split
  · rename_i h1; rw [if_pos h1] at h; exact absurd h h1
  · rename_i h1
    rw [if_neg h1] at h
    have hc := count_le (most := 512) (st := st) (by omega) hb
    generalize (count 512 st).1 = n at *
    generalize (count 512 st).2.2 = st1 at *
    unfold state2 at h ⊢
    split
    · rename_i h2; rw [if_pos h2] at h; exact absurd h h2
    · rename_i h2
      rw [if_neg h2] at h
      have h2' : (readP n.toNat [] st1).1 = 0 := by simpa using h2
      obtain ⟨p1, p2⟩ := readP_small (by simp) h2'
      generalize readP n.toNat [] st1 = p at *
      unfold state3 at h ⊢
      split
      · rename_i h3; rw [if_pos h3] at h; exact absurd h h3
      · rename_i h3
        have h3' : (readV (p.2.1.map (·.s)) [] p.2.2).1 = 0 := by simpa using h3
        obtain ⟨v1, v2⟩ := readV_small (by simp) h3'
        generalize readV (p.2.1.map (·.s)) [] p.2.2 = v at *
        simp only [List.map_nil, List.nil_append] at v2
        have hl : p.2.1.length = v.2.1.length := by have := congrArg List.length v2; simpa using this.symm
        refine ⟨?_, by simp at p2 ⊢; omega⟩
        rw [Tn.alike_ok hl (List.all_eq_true.2 p1) (List.all_eq_true.2 v1)]
        simp [v2]
theorem metrics_small {st : Option (List Int)} (hb : Fp.okB st) (h : (metrics st).1 = 0) : (metrics st).2.1.length ≤ 1024 := by
  unfold metrics metrics1 at h ⊢
  have hc := count_le (most := 1024) (st := st) (by omega) hb
  split
  · simp
  · split
    · simp
    · simp only [group_len]; omega
end Kr

theorem Fp.okB_body {bs : List Int} (h : ∀ x ∈ bs, 0 ≤ x ∧ x ≤ 255) : Fp.okB (some (Fp.body bs)) := fun x hx => h x (List.mem_of_mem_take hx)

def DecP (bs : List Int) (w : World) (e : Ending) (w' : World) : Prop :=
  ((Kr.decode bs).1 ≠ 0 ∧ e = .returned (.tuple #[.agg #[.slice none 0 0, .slice none 0 0, .slice none 0 0], .int .i64 (Kr.decode bs).1]) ∨ (Kr.decode bs).1 = 0 ∧ ∃ P V M c1 c2 c3, e = .returned (.tuple #[.agg #[.slice P (Kr.decode bs).2.p.length c1, .slice V (Kr.decode bs).2.v.length c2, .slice M (Kr.decode bs).2.m.length c3], .int .i64 0]) ∧ SavR w' P V M (Kr.decode bs).2) ∧ Below w.heap.size w w'
theorem zero_box3 {B : Nat} {w w' : World} (hb : Below B w w') (a b c : Value) : Below B w (((w'.setCell ⟨B, 0, none⟩ a).setCell ⟨B, 1, none⟩ b).setCell ⟨B, 2, none⟩ c) :=
  ((hb.setCell (p := ⟨B, 0, none⟩) (Nat.le_refl _) _).setCell (p := ⟨B, 1, none⟩) (Nat.le_refl _) _).setCell (p := ⟨B, 2, none⟩) (Nat.le_refl _) _
set_option maxHeartbeats 4000000 in
set_option maxRecDepth 100000 in
theorem keep_decode (A : Option Addr) (c : Nat) (bs : List Int) (w : World) (hI : Ints .u8 w A bs) (hcap : bs.length ≤ c) (hlen : bs.length ≤ 1000000000) (hby : ∀ x ∈ bs, 0 ≤ x ∧ x ≤ 255) :
    Calls Tryz.prog 12 #[.slice A bs.length c] w (DecP bs w) := by
  have hk0 := Blk.new w 32 #[.slice none 0 0, .slice none 0 0, .slice none 0 0]
  have hI0 := hI.alloc (.cells #[.slice none 0 0, .slice none 0 0, .slice none 0 0] 32)
  have hb0 : Below w.heap.size w (w.alloc (.cells #[.slice none 0 0, .slice none 0 0, .slice none 0 0] 32)) := (Below.refl _ _).alloc (Nat.le_refl _) _
  have HD := Lib.hid (show Kr.decode bs = if Fp.openE bs ≠ 0 then (Fp.openE bs, Kr.none_) else Kr.dec2 (Fp.get 4 (some (Fp.body bs))) from rfl)
  have Hk0 := Lib.hid hk0
  have HI0 := Lib.hid hI0
  have Hby := Lib.hid hby
  clear hk0 hI0 hby
  clear hI
  go_enter Tryz.func12, Tryz.ntmps12
  go_wp2_with fail
  refine (new_reader A c bs _ HI0.out hcap hlen Hby.out).mono ?_
  rintro e w1 ⟨hcase, h1⟩
  have hk1 := Hk0.out.below h1 Hk0.out.lt
  have hb1 := hb0.trans (h1.mono hb0.size)
  have hsz1 := h1.size
  rw [World.size_alloc] at hsz1
  clear h1 hb0 Hk0 HI0
  rcases hcase with ⟨he, rfl⟩ | ⟨he, r, rfl, hrb, hR1⟩
  · have HE := Lib.hid (show Kr.decode bs = (Fp.openE bs, Kr.none_) by rw [HD.out, if_pos he])
    have hne : (Fp.openE bs != 0) = true := by simp [he]
    have hb2 := zero_box3 hb1 (.slice none 0 0) (.slice none 0 0) (.slice none 0 0)
    have c0 := hk1.cell 0
    have c1 := hk1.cell 1
    have c2 := hk1.cell 2
    have f0 := hk1.frozen 0
    have f1 := hk1.frozen 1
    have f2 := hk1.frozen 2
    simp at c0 c1 c2
    have He := Lib.hid he
    clear he
    clear hk1 hb1
    generalize Fp.openE bs = er at *
    go_wp2_with fail
    refine bodyPost_ret (v := .tuple #[.agg #[.slice none 0 0, .slice none 0 0, .slice none 0 0], .int .i64 er]) (by simp [results, Tryz.results12, go_sem, c0, c1, c2]) rfl ?_
    exact ⟨.inl ⟨by rw [HE.out]; exact He.out, by rw [HE.out]⟩, hb2⟩
  · have HD2 := Lib.hid (show Kr.decode bs = Kr.dec2 (Fp.get 4 (some (Fp.body bs))) by rw [HD.out, he]; rfl)
    rw [World.size_alloc] at hrb
    have hO1 : RdO r (some (Fp.body bs)) w1 := ⟨hR1, Fp.okB_body Hby.out, by unfold Fp.body; rw [List.length_take]; omega⟩
    have HO1 := Lib.hid hO1
    have Hk1 := Lib.hid hk1
    clear hO1 hk1
    clear hR1 he HD
    go_wp2_with fail
    refine (reader_getO r 4 (some (Fp.body bs)) _ HO1.out (by omega) (by omega)).mono ?_
    rintro e w2 ⟨rfl, hR2, hg2⟩
    have hF2 := Fr.of_grown (S := fun b => b = r) hg2 (fun k e _ => by injection e with e; exact e.symm)
    have hk2 := hF2.blk Hk1.out (by omega)
    have hb2 := hb1.trans (hF2.below (B := w.heap.size) (fun b e => by omega) hb1.size)
    have HD3 := Lib.hid (show Kr.decode bs = Kr.dec2 ((Fp.get 4 (some (Fp.body bs))).1, (Fp.get 4 (some (Fp.body bs))).2) from HD2.out)
    generalize (Fp.get 4 (some (Fp.body bs))).1 = mg at *
    generalize (Fp.get 4 (some (Fp.body bs))).2 = st2 at *
    clear HO1 Hk1 hg2 hF2 hb1 HD2
    have c0 := hk2.cell 0
    have c1 := hk2.cell 1
    have c2 := hk2.cell 2
    have f0 := hk2.frozen 0
    have f1 := hk2.frozen 1
    have f2 := hk2.frozen 2
    simp at c0 c1 c2
    by_cases hm : mg = 1096042579
    · have hmb : (mg != 1096042579) = false := by simp [hm]
      have HD4 := Lib.hid (show Kr.decode bs = Kr.dec3 (Kr.state st2) by rw [HD3.out]; simp [Kr.dec2, hm])
      have hq3 := Blk.new w2 32 #[.slice none 0 0, .slice none 0 0, .slice none 0 0]
      have hk3 := hk2.alloc (.cells #[.slice none 0 0, .slice none 0 0, .slice none 0 0] 32)
      have hR3 := hR2.alloc (.cells #[.slice none 0 0, .slice none 0 0, .slice none 0 0] 32)
      have hb3 := hb2.alloc hb2.size (.cells #[.slice none 0 0, .slice none 0 0, .slice none 0 0] 32)
      have hrl2 := hR2.lt
      have hokb := hR2.ok
      have Hq3 := Lib.hid hq3
      have Hk3 := Lib.hid hk3
      have HR3 := Lib.hid hR3
      have Hokb := Lib.hid hokb
      clear hq3 hk3 hR3 hokb
      clear hm HD3 hk2 hR2 hb2 c0 c1 c2 f0 f1 f2
      go_wp2_with fail
      have hs3 : w2.heap.size + 1 ≤ (w2.alloc (.cells #[.slice none 0 0, .slice none 0 0, .slice none 0 0] 32)).heap.size := by simp
      generalize w2.alloc (.cells #[.slice none 0 0, .slice none 0 0, .slice none 0 0] 32) = w3 at *
      generalize w2.heap.size = q at *
      refine (keep_state r st2 _ HR3.out).mono ?_
      rintro e w4 ⟨hcase, hR4, hF4⟩
      have hk4 := hF4.blk Hk3.out (by omega)
      have hq4 := hF4.blk Hq3.out (by omega)
      have hb4 := hb3.trans (hF4.below (B := w.heap.size) (fun b e => by omega) (by omega))
      have hsz4 := hF4.size
      clear HR3 Hk3 Hq3 hb3 hF4
      rcases hcase with ⟨he, rfl⟩ | ⟨he, A1, k1, A2, k2, LP, LV, rfl, hLP, hLV, hN, hV⟩
      · have HE := Lib.hid (show Kr.decode bs = ((Kr.state st2).1, Kr.none_) by rw [HD4.out]; simp [Kr.dec3, he])
        have hne : ((Kr.state st2).1 != 0) = true := by simp [he]
        have c0 := hk4.cell 0
        have c1 := hk4.cell 1
        have c2 := hk4.cell 2
        have f0 := hk4.frozen 0
        have f1 := hk4.frozen 1
        have f2 := hk4.frozen 2
        have d0 := hq4.cell 0
        have d1 := hq4.cell 1
        have g0 := hq4.frozen 0
        have g1 := hq4.frozen 1
        simp at c0 c1 c2 d0 d1
        have hqB : ¬ q = w.heap.size := by omega
        have hBq : ¬ w.heap.size = q := by omega
        have hb5 := zero_box3 ((hb4.setCell (p := ⟨q, 0, none⟩) (by simp; omega) (.slice none 0 0)).setCell (p := ⟨q, 1, none⟩) (by simp; omega) (.slice none 0 0)) (.slice none 0 0) (.slice none 0 0) (.slice none 0 0)
        have He := Lib.hid he
        clear he
        clear hk4 hq4 hb4 hR4
        generalize (Kr.state st2).1 = er at *
        go_wp2_with fail
        refine bodyPost_ret (v := .tuple #[.agg #[.slice none 0 0, .slice none 0 0, .slice none 0 0], .int .i64 er]) (by simp [results, Tryz.results12, go_sem, c0, c1, c2]) rfl ?_
        exact ⟨.inl ⟨by rw [HE.out]; exact He.out, by rw [HE.out]⟩, hb5⟩
      · have HD5 := Lib.hid (show Kr.decode bs = Kr.dec4 (Kr.state st2) (Kr.metrics (Kr.state st2).2.2.2) by rw [HD4.out]; simp [Kr.dec3, he])
        obtain ⟨hal, hpl⟩ := Kr.state_small Hokb.out he
        obtain ⟨hall, har, hav, _⟩ := Kp.alike_all hal
        have hqB : ¬ q = w.heap.size := by omega
        have hBq : ¬ w.heap.size = q := by omega
        have hvl : (Kr.state st2).2.2.1.length ≤ 512 := by omega
        generalize hsp : (Kr.state st2).2.1 = sp at *
        generalize hsv : (Kr.state st2).2.2.1 = sv at *
        generalize hst : (Kr.state st2).2.2.2 = st3 at *
        have HD6 := Lib.hid (show Kr.decode bs = Kr.dec4 (0, sp, sv, st3) (Kr.metrics st3) by rw [HD5.out, ← hsp, ← hsv, ← hst]; rfl)
        have hT5 : Fr (fun b => b = q) w4 ((w4.setCell ⟨q, 0, none⟩ (.slice A1 sp.length k1)).setCell ⟨q, 1, none⟩ (.slice A2 sv.length k2)) := ((Fr.refl (fun b => b = q) _).setCell (p := ⟨q, 0, none⟩) (fun _ => rfl) _).setCell (p := ⟨q, 1, none⟩) (fun _ => rfl) _
        have hk5 := hT5.blk hk4 (by omega)
        have hq5 := (hq4.set_ 0 (.slice A1 sp.length k1)).set_ 1 (.slice A2 sv.length k2)
        simp at hq5
        have hR5 := hR4.fr hT5 (fun b e => by omega)
        have hN5 := OwnRow.fr hN hT5 (fun b hb _ e => by omega)
        have hV5 := OwnRow.fr hV hT5 (fun b hb _ e => by omega)
        have hb5 := hb4.trans (hT5.below (B := w.heap.size) (fun b e => by omega) (by omega))
        have d0 := hq4.cell 0
        have d1 := hq4.cell 1
        have g0 := hq4.frozen 0
        have g1 := hq4.frozen 1
        simp at d0 d1
        have hs5 : w4.heap.size ≤ ((w4.setCell ⟨q, 0, none⟩ (.slice A1 sp.length k1)).setCell ⟨q, 1, none⟩ (.slice A2 sv.length k2)).heap.size := by simp
        have Hk5 := Lib.hid hk5
        have Hq5 := Lib.hid hq5
        have HR5 := Lib.hid hR5
        have HN5 := Lib.hid hN5
        have HV5 := Lib.hid hV5
        have HLP := Lib.hid hLP
        have HLV := Lib.hid hLV
        have Har := Lib.hid har
        have Hav := Lib.hid hav
        clear hk5 hq5 hR5 hN5 hV5 hLP hLV har hav
        clear hk4 hq4 hb4 hR4 hN hV hT5 HD4 HD5 hsp hsv hst hal hall he
        go_wp2_with fail
        generalize (w4.setCell ⟨q, 0, none⟩ (.slice A1 sp.length _)).setCell ⟨q, 1, none⟩ (.slice A2 sv.length _) = w5 at *
        clear d0 d1 g0 g1
        refine (keep_metrics r st3 _ HR5.out).mono ?_
        rintro e w6 ⟨hcase, hR6, hF6⟩
        have hk6 := hF6.blk Hk5.out (by omega)
        have hq6 := hF6.blk Hq5.out (by omega)
        have hN6 := OwnRow.fr HN5.out hF6 (fun b hb _ e => by omega)
        have hV6 := OwnRow.fr HV5.out hF6 (fun b hb _ e => by omega)
        have hb6 := hb5.trans (hF6.below (B := w.heap.size) (fun b e => by omega) (by omega))
        have hsz6 := hF6.size
        have c0 := hk6.cell 0
        have c1 := hk6.cell 1
        have c2 := hk6.cell 2
        have f0 := hk6.frozen 0
        have f1 := hk6.frozen 1
        have f2 := hk6.frozen 2
        have e0 := hq6.cell 0
        have e1 := hq6.cell 1
        have e2 := hq6.cell 2
        have g2 := hq6.frozen 2
        simp at c0 c1 c2 e0 e1 e2
        have hokb6 := HR5.out.ok
        clear Hk5 Hq5 HR5 HN5 HV5 hb5
        rcases hcase with ⟨he, rfl⟩ | ⟨he, v3, rfl, gm, lm, rfl, hgm, hM, hlm, hgr⟩
        · have HE := Lib.hid (show Kr.decode bs = ((Kr.metrics st3).1, Kr.none_) by rw [HD6.out]; simp [Kr.dec4, he])
          have hne : ((Kr.metrics st3).1 != 0) = true := by simp [he]
          have hb7 := zero_box3 (hb6.setCell (p := ⟨q, 2, none⟩) (by simp; omega) (.slice none 0 0)) (.slice none 0 0) (.slice none 0 0) (.slice none 0 0)
          have He := Lib.hid he
          clear he
          clear hk6 hq6 hb6 hR6 hN6 hV6 hokb6
          generalize (Kr.metrics st3).1 = er at *
          go_wp2_with fail
          refine bodyPost_ret (v := .tuple #[.agg #[.slice none 0 0, .slice none 0 0, .slice none 0 0], .int .i64 er]) (by simp [results, Tryz.results12, go_sem, c0, c1, c2]) rfl ?_
          exact ⟨.inl ⟨by rw [HE.out]; exact He.out, by rw [HE.out]⟩, hb7⟩
        · have hml := Kr.metrics_small hokb6 he
          have HD7 := Lib.hid (show Kr.decode bs = if Fp.endO (Kr.metrics st3).2.2 ≠ 0 then (Fp.endO (Kr.metrics st3).2.2, Kr.none_) else (0, ⟨sp, sv, (Kr.metrics st3).2.1⟩) by rw [HD6.out]; simp [Kr.dec4, he])
          generalize (Kr.metrics st3).2.1 = ms at *
          generalize (Kr.metrics st3).2.2 = st4 at *
          have hT7 : Fr (fun b => b = q) w6 (w6.setCell ⟨q, 2, none⟩ (.slice (some ⟨gm, 0, none⟩) ms.length ms.length)) := (Fr.refl (fun b => b = q) _).setCell (p := ⟨q, 2, none⟩) (fun _ => rfl) _
          have hR7 := hR6.fr hT7 (fun b e => by omega)
          have hN7 := OwnRow.fr hN6 hT7 (fun b hb _ e => by omega)
          have hV7 := OwnRow.fr hV6 hT7 (fun b hb _ e => by omega)
          have hM7 := hT7.blk hM (by omega)
          have hb7 := hb6.trans (hT7.below (B := w.heap.size) (fun b e => by omega) (by omega))
          have hz7 := zero_box3 hb7 (.slice none 0 0) (.slice none 0 0) (.slice none 0 0)
          have HR7 := Lib.hid hR7
          have HN7 := Lib.hid hN7
          have HV7 := Lib.hid hV7
          have HM7 := Lib.hid hM7
          have Hlm := Lib.hid hlm
          have Hgr := Lib.hid hgr
          clear hR7 hN7 hV7 hM7 hlm hgr
          clear hk6 hq6 hb6 hR6 hN6 hV6 hM hT7 hokb6 he
          go_wp2_with fail
          refine (reader_endO r st4 _ HR7.out).mono ?_
          rintro e w8 ⟨rfl, rfl⟩
          by_cases hend : Fp.endO st4 = 0
          · have heb : (Fp.endO st4 != 0) = false := by simp [hend]
            have HE := Lib.hid (show Kr.decode bs = (0, ⟨sp, sv, ms⟩) by rw [HD7.out]; simp [hend])
            have hT8 : Fr (fun b => b = w.heap.size) (w6.setCell ⟨q, 2, none⟩ (.slice (some ⟨gm, 0, none⟩) ms.length ms.length)) ((((w6.setCell ⟨q, 2, none⟩ (.slice (some ⟨gm, 0, none⟩) ms.length ms.length)).setCell ⟨w.heap.size, 0, none⟩ (.slice A1 sp.length k1)).setCell ⟨w.heap.size, 1, none⟩ (.slice A2 sv.length k2)).setCell ⟨w.heap.size, 2, none⟩ (.slice (some ⟨gm, 0, none⟩) ms.length ms.length)) := (((Fr.refl (fun b => b = w.heap.size) _).setCell (p := ⟨w.heap.size, 0, none⟩) (fun _ => rfl) _).setCell (p := ⟨w.heap.size, 1, none⟩) (fun _ => rfl) _).setCell (p := ⟨w.heap.size, 2, none⟩) (fun _ => rfl) _
            have hz8 := zero_box3 hb7 (.slice A1 sp.length k1) (.slice A2 sv.length k2) (.slice (some ⟨gm, 0, none⟩) ms.length ms.length)
            have hN8 := OwnRow.fr HN7.out hT8 (fun b hb _ e => by omega)
            have hV8 := OwnRow.fr HV7.out hT8 (fun b hb _ e => by omega)
            have hM8 := hT8.blk HM7.out (by omega)
            have HN8 := Lib.hid hN8
            have HV8 := Lib.hid hV8
            have HM8 := Lib.hid hM8
            have Hz8 := Lib.hid hz8
            clear hN8 hV8 hM8 hz8
            clear hT8 hz7 hb7 HR7 HN7 HV7 HM7 hend
            go_wp2_with fail
            refine bodyPost_ret (v := .tuple #[.agg #[.slice A1 sp.length k1, .slice A2 sv.length k2, .slice (some ⟨gm, 0, none⟩) ms.length ms.length], .int .i64 0]) (by simp [results, Tryz.results12, go_sem, c0, c1, c2]) rfl ?_
            refine ⟨.inr ⟨by rw [HE.out], A1, A2, some ⟨gm, 0, none⟩, k1, k2, ms.length, by rw [HE.out], ?_⟩, Hz8.out⟩
            rw [HE.out]
            have hsm : ∀ (L : List TenA) (l : List Ten), L.map (·.1) = l → l.all Tn.right = true → ∀ x ∈ L, x.1.s.length ≤ 1000000 ∧ x.1.c.length ≤ 1000000 := fun L l e h x hx => by
              have := Tn.right_len (List.all_eq_true.1 h x.1 (by rw [← e]; exact List.mem_map_of_mem hx))
              omega
            obtain ⟨A1', d1', hv1, ht1⟩ := TensN.tens HN8.out (hsm _ _ HLP.out Har.out)
            obtain ⟨A2', d2', hv2, ht2⟩ := TensN.tens HV8.out (hsm _ _ HLV.out Hav.out)
            injection hv1 with hv1
            injection hv2 with hv2
            subst hv1 hv2
            rw [HLP.out] at ht1
            rw [HLV.out] at ht2
            have hm8 := HM8.out.mets Hlm.out
            rw [← Hgr.out] at hm8
            exact ⟨ht1, ht2, hm8⟩
          · have heb : (Fp.endO st4 != 0) = true := by simp [hend]
            have HE := Lib.hid (show Kr.decode bs = (Fp.endO st4, Kr.none_) by rw [HD7.out]; simp [hend])
            have Hend := Lib.hid hend
            clear hend
            generalize Fp.endO st4 = er at *
            go_wp2_with fail
            refine bodyPost_ret (v := .tuple #[.agg #[.slice none 0 0, .slice none 0 0, .slice none 0 0], .int .i64 er]) (by simp [results, Tryz.results12, go_sem, c0, c1, c2]) rfl ?_
            exact ⟨.inl ⟨by rw [HE.out]; exact Hend.out, by rw [HE.out]⟩, hz7⟩
    · have hmb : (mg != 1096042579) = true := by simp [hm]
      have HE := Lib.hid (show Kr.decode bs = (10, Kr.none_) by rw [HD3.out]; simp [Kr.dec2, hm])
      have hb3 := zero_box3 hb2 (.slice none 0 0) (.slice none 0 0) (.slice none 0 0)
      clear hm hk2 hR2 hb2
      go_wp2_with fail
      refine bodyPost_ret (v := .tuple #[.agg #[.slice none 0 0, .slice none 0 0, .slice none 0 0], .int .i64 10]) (by simp [results, Tryz.results12, go_sem, c0, c1, c2]) rfl ?_
      exact ⟨.inl ⟨by rw [HE.out]; simp, by rw [HE.out]⟩, hb3⟩
end Go.Proofs.YtkmhagjdafeebaaGreat
