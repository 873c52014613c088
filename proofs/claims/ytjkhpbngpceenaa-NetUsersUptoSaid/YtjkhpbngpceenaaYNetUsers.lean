/- The statement Rows.NetUsersUptoSaid is proved: for every input the law 'athanorlaw11.NetUsers' returns true, and each argument reads afterwards as it read before. Conditions: those of the row, no others. -/
import Derived.Below
import Derived.ChangeOld
import Derived.JoinedCond
import Derived.OpenShut
import Derived.ProofKit
import Derived.ShutString
import Derived.WalkKit
import Derived.Test.YtjkhpbngpceenaaRows
import Derived.Test.YtjkhpbngpceenaaZ10
set_option linter.unusedVariables false
/- Layer 11's statement NetUsers: the walk. -/
namespace Go.Proofs.Ytjkhpbngpceenaa
open Go.RowKit
set_option maxHeartbeats 16000000 in
set_option maxRecDepth 100000 in
theorem walkNetUsers (w : World) (A N : Option Addr) (c d : Nat) (n : NetD) (la : n.inn.length ≤ c) (lb : c ≤ 9223372036854775807) (lc : n.nodes.length ≤ d) (ld : d ≤ 9223372036854775807) (hR : NetR w A N n) (hf : n.fits) (id : Int) (hid : (Lit.int .i64 id).wf = true) :
    Calls Try.prog 7 #[.agg #[.slice A n.inn.length c, .slice N n.nodes.length d], .int .i64 id] w fun e w' => e = .returned (.bool true) ∧ Below w.heap.size w w' := by
  have hok := hf.ok
  have hk := Blk.new w 26 #[.slice A n.inn.length c, .slice N n.nodes.length d]
  have hl0 : Later w (w.alloc (.cells #[.slice A n.inn.length c, .slice N n.nodes.length d] 26)) := (Later.refl w).alloc _
  have hnl := hok.2.1
  have Hok := Lib.hid hok
  have HR := Lib.hid hR
  have Hk := Lib.hid hk
  have Hl0 := Lib.hid hl0
  have Hf := Lib.hid hf
  have Hid := Lib.hid hid
  clear hok hR hk hl0 hf hid
  go_enter Try.func7, Try.ntmps7
  go_wp2_with fail
  generalize w.alloc (.cells #[.slice A n.inn.length c, .slice N n.nodes.length d] 26) = w1 at *
  refine (small_11 A N c d n w1 Hok.out (HR.out.below Hl0.out (Nat.le_refl _))).mono ?_
  rintro e w2 ⟨b, rfl, hb2⟩
  have hl2 := Hl0.out.call hb2
  have hk2 := (show Later w1 w2 from hb2).blk Hk.out
  clear hb2 Hk Hl0
  cases b
  · have Hk2 := Lib.hid hk2
    have Hl2 := Lib.hid hl2
    clear hk2 hl2
    go_wp2_with fail
    refine (awake11 _).mono ?_
    rintro e w3 ⟨rfl, hb3⟩
    go_wp2_with fail
    go_ret
    exact ⟨rfl, Hl2.out.call hb3⟩
  · have x0 : w2.cell? ⟨w.heap.size, 0, none⟩ = some (.slice A n.inn.length c) := by rw [hk2.cell]; rfl
    have x1 : w2.cell? ⟨w.heap.size, 1, none⟩ = some (.slice N n.nodes.length d) := by rw [hk2.cell]; rfl
    have Hk2 := Lib.hid hk2
    have Hl2 := Lib.hid hl2
    clear hk2 hl2
    go_wp2_with fail
    refine (net_users A N c d n id _ Hok.out (HR.out.below Hl2.out (Nat.le_refl _))).mono ?_
    rintro e w3 ⟨U, uc, rfl, hU, hu1, hu2, hb3⟩
    have hl3 := Hl2.out.call hb3
    have hk3 := (show Later w2 w3 from hb3).blk Hk2.out
    have hup := fun k hk => @users_up n id k hk
    have hum := fun u hu => @users_mem n id u hu
    have huc := users_count n id
    have hul : (Nt.users n id).length ≤ n.nodes.length := by
      unfold Nt.users
      exact Nat.le_trans (List.length_filter_le _ _) (by rw [Kn.ids_length]; exact Nat.le_refl _)
    clear x0 x1 hb3 Hk2 Hl2
    generalize Nt.users n id = us at *
    have Hl3 := Lib.hid hl3
    have Hk3 := Lib.hid hk3
    have HU := Lib.hid hU
    have Hup := Lib.hid hup
    have Hum := Lib.hid hum
    have Huc := Lib.hid huc
    clear hl3 hk3 hU hup hum huc
    go_wp2_with fail
    go_loopw [6, 24] (fun l i wx => ∃ k : Nat, k ≤ us.length ∧ i = .int .i64 (k : Int) ∧ l = .int .i64 ((us.take k).getLastD 0) ∧ Later w3 wx) (fun _ i _ => us.length - (intOf i).toNat)
    case atStart => exact ⟨0, Nat.zero_le _, rfl, rfl, Later.refl _⟩
    case round =>
      obtain ⟨k, hk, rfl, rfl, hlw⟩ := hrel
      by_cases hlt : k < us.length
      · have hup := Hup.out k hlt
        obtain ⟨hr1, hr2, hr3⟩ := Hum.out _ (List.getElem_mem hlt)
        obtain ⟨b, off, rfl, -, hc0⟩ := HU.out k hlt
        rw [getD_at hlt] at hc0
        have hc1 := hlw.cell hc0
        have hlast : (us.take (k + 1)).getLastD 0 = us[k] := by
          rw [List.take_succ_eq_append_getElem hlt]; simp only [List.getLastD_eq_getLast?, List.getLast?_concat, Option.getD_some]
        clear hc0
        generalize (us.take k).getLastD 0 = last at *
        obtain ⟨j, hj⟩ : ∃ j : Nat, us[k] = (j : Int) + 1 := ⟨(us[k] - 1).toNat, by omega⟩
        have hjl : j < n.nodes.length := by omega
        have hiF : Nt.insF n.nodes us[k] = n.nodes[j].ins := by unfold Nt.insF; rw [hj, Nt.node_at hjl]
        rw [hiF] at hr3
        rw [hj] at hc1 hlast hup
        clear hiF
        obtain ⟨b1, off1, S, sc, I, ic, Q, qc, rfl, hNA, -, -, -⟩ := HR.out.2.at_ hjl
        have hil := (Hok.out.2.2 _ (List.getElem_mem hjl)).2.2.1
        obtain ⟨⟨y0, y1, y2, y3, y4, y5, y6, y7, y8, y9⟩, -, hIJ, -⟩ := hNA.below (Hl3.out.trans hlw)
        generalize n.nodes[j] = v at *
        have x1 : wr.cell? ⟨w.heap.size, 1, none⟩ = some (.slice (some ⟨b1, off1, none⟩) n.nodes.length d) := by rw [(hlw.blk Hk3.out).cell]; rfl
        have j1 : IntKind.i64.wrap ((j : Int) + 1 - 1) = (j : Int) := by rw [IntWalk.i64_in _ (by omega)]; omega
        have j2 : (j : Int) < n.nodes.length := by omega
        have j3 : ¬ ((j : Int) + 1 ≤ last) := by omega
        have j4 : ¬ ((n.nodes.length : Int) < (j : Int) + 1) := by omega
        clear hj hr1 hr2 hup
        have HIJ := Lib.hid hIJ
        have HNA := Lib.hid hNA
        have Hlast := Lib.hid hlast
        have Hlw := Lib.hid hlw
        have Hr3 := Lib.hid hr3
        clear hIJ hNA hlast hlw hr3
        go_wp2_with fail
        refine (law_uses v S I Q sc ic qc id _ hil HIJ.out).mono ?_
        rintro e w4 ⟨rfl, hb4⟩
        rw [Hr3.out]
        have hl4 := Hlw.out.call hb4
        clear hb4 y0 y1 y2 y3 y4 y5 y6 y7 y8 y9
        have Hl4 := Lib.hid hl4
        clear hl4
        go_wp2_with fail
        go_roundw
        case rel => exact ⟨k + 1, by omega, by go_num, by rw [Hlast.out], Hl4.out⟩
        case measure => simp [intOf]; omega
      · obtain rfl : k = us.length := by omega
        have hk4 := hlw.blk Hk3.out
        have hl4 := Hl3.out.trans hlw
        have x0 : wr.cell? ⟨w.heap.size, 0, none⟩ = some (.slice A n.inn.length c) := by rw [hk4.cell]; rfl
        have x1 : wr.cell? ⟨w.heap.size, 1, none⟩ = some (.slice N n.nodes.length d) := by rw [hk4.cell]; rfl
        have Hlw := Lib.hid hlw
        have Hk4 := Lib.hid hk4
        have Hl4 := Lib.hid hl4
        clear hlw hk4 hl4
        go_wp2_with fail
        refine (net_params A N c d n _ Hok.out (HR.out.below Hl4.out (Nat.le_refl _))).mono ?_
        rintro e w5 ⟨P, pc, rfl, hP, hp1, hp2, hb5⟩
        have hl5 := Hl4.out.call hb5
        have hk5 := (show Later wr w5 from hb5).blk Hk4.out
        have y1 : w5.cell? ⟨w.heap.size, 1, none⟩ = some (.slice N n.nodes.length d) := by rw [hk5.cell]; rfl
        have hat := fun k m hk hm => @params_at n k m hk hm
        have hpl := params_len Hok.out n.nodes.length
        have hpd : Nt.params n = (n.nodes.take n.nodes.length).flatMap (·.p) := by rw [List.take_length]; rfl
        have hkb : n.nodes.length * 1048576 ≤ 1048576 * 1048576 := Nat.mul_le_mul_right _ (by omega)
        rw [← hpd] at hpl
        clear x0 x1 hb5
        generalize Nt.params n = ps at *
        have Hl5 := Lib.hid hl5
        have Hk5 := Lib.hid hk5
        have HP := Lib.hid hP
        have Hat := Lib.hid hat
        have Hpd := Lib.hid hpd
        clear hl5 hk5 hP hat hpd
        go_wp2_with fail
        go_loopw [10, 56] (fun t i wx => ∃ k : Nat, k ≤ n.nodes.length ∧ i = .int .i64 (k : Int) ∧ t = .int .i64 (((n.nodes.take k).flatMap (·.p)).length : Nat) ∧ Later w5 wx) (fun _ i _ => n.nodes.length - (intOf i).toNat)
        case atStart => exact ⟨0, Nat.zero_le _, rfl, rfl, Later.refl _⟩
        case round =>
          obtain ⟨k, hk, rfl, rfl, hlw⟩ := hrel
          by_cases hlt : k < n.nodes.length
          · obtain ⟨b, off, S, sc, J, ic, Q, qc, rfl, hNA, -, -, -⟩ := HR.out.2.at_ hlt
            have hnok := Hok.out.2.2 _ (List.getElem_mem hlt)
            have hpl2 := hnok.2.2.2.1
            have hps := hnok.2.2.2.2.1
            have hat := fun m hm => Hat.out k m hlt hm
            have hsn : ((n.nodes.take (k + 1)).flatMap (·.p)).length = ((n.nodes.take k).flatMap (·.p)).length + n.nodes[k].p.length := by rw [List.take_succ_eq_append_getElem hlt, List.flatMap_append, List.length_append]; simp
            have hlk := params_len Hok.out k
            have hkb : k * 1048576 ≤ 1048576 * 1048576 := Nat.mul_le_mul_right _ (by omega)
            generalize n.nodes[k] = v at *
            generalize ((n.nodes.take k).flatMap (·.p)).length = base at *
            obtain ⟨⟨y0, y1, y2, y3, y4, y5, y6, y7, y8, y9⟩, -, -, hQ⟩ := hNA.below (Hl5.out.trans hlw)
            have hl2 := hlw.alloc (.cells #[.int .i64 v.op.kind, .int .i64 v.op.k, .int .i64 v.op.width, .int .i64 v.op.step, .int .i64 v.op.side, .int .i64 v.op.frm, .int .i64 v.op.to, .slice S v.op.s.length sc, .slice J v.ins.length ic, .slice Q v.p.length qc] 46)
            have hQ2 := hQ.alloc (.cells #[.int .i64 v.op.kind, .int .i64 v.op.k, .int .i64 v.op.width, .int .i64 v.op.step, .int .i64 v.op.side, .int .i64 v.op.frm, .int .i64 v.op.to, .slice S v.op.s.length sc, .slice J v.ins.length ic, .slice Q v.p.length qc] 46)
            have HNA := Lib.hid hNA
            have Hnok := Lib.hid hnok
            have Hps := Lib.hid hps
            have HQ := Lib.hid hQ
            have HQ2 := Lib.hid hQ2
            have Hsn := Lib.hid hsn
            have Hat := Lib.hid hat
            have Hlw := Lib.hid hlw
            have Hl2 := Lib.hid hl2
            clear hNA hnok hps hQ hQ2 hsn hat hlw hl2
            go_wp2_with fail
            clear y0 y1 y2 y3 y4 y5 y6 y7 y8 y9
            generalize wr.alloc (.cells #[.int .i64 v.op.kind, .int .i64 v.op.k, .int .i64 v.op.width, .int .i64 v.op.step, .int .i64 v.op.side, .int .i64 v.op.frm, .int .i64 v.op.to, .slice S v.op.s.length sc, .slice J v.ins.length ic, .slice Q v.p.length qc] 46) = w6 at *
            obtain ⟨wo, rfl⟩ : ∃ wo, wo = wr := ⟨wr, rfl⟩
            go_loopw [10, 63] (fun t i wx => ∃ m q bm : Nat, m ≤ v.p.length ∧ i = .int .i64 (m : Int) ∧ t = .int .i64 (bm : Int) ∧ wx = w6.drewN q ∧ bm = base + m) (fun _ i _ => v.p.length - (intOf i).toNat)
            case atStart => exact ⟨0, 0, base, Nat.zero_le _, rfl, rfl, rfl, rfl⟩
            case round =>
              obtain ⟨m, q, bm, hm, rfl, rfl, rfl, hbm⟩ := hrel
              by_cases hlm : m < v.p.length
              · obtain ⟨hb1, hb2⟩ := Hat.out m hlm
                rw [← hbm] at hb1 hb2
                obtain ⟨b5, o5, Ss, cs, rfl, -, hcs, hIs, hs5, hs6⟩ := HQ2.out m hlm
                obtain ⟨b6, o6, St, ct, rfl, -, hct, hIt, ht5, ht6⟩ := (HP.out.below Hl2.out (Nat.le_refl _)) bm hb1
                have he : ps[bm] = v.p[m] := by
                  rw [List.getElem?_eq_getElem hb1] at hb2
                  injection hb2
                rw [he] at hct hIt ht5
                generalize v.p[m] = s at *
                have hcs2 : (w6.drewN q).cell? ⟨b5, o5 + m, none⟩ = some (.slice Ss s.length cs) := hcs
                have hct2 : (w6.drewN q).cell? ⟨b6, o6 + bm, none⟩ = some (.slice St s.length ct) := hct
                have i1 : (bm : Int) < (ps.length : Int) := by omega
                have i2 : ¬ (ps.length : Int) ≤ (bm : Int) := by omega
                have i3 : (0 : Int) ≤ (bm : Int) := by omega
                have hcall := ref03_same St Ss ct cs s s (w6.drewN q) (by omega) (by omega) hIt hIs
                rw [decide_eq_true rfl] at hcall
                have hbm2 : bm + 1 = base + (m + 1) := by omega
                have Hcall := Lib.hid hcall
                have He := Lib.hid he
                have HIs := Lib.hid hIs
                have HIt := Lib.hid hIt
                have Hbm := Lib.hid hbm
                have Hbm2 := Lib.hid hbm2
                clear hcall he hIs hIt hbm hbm2
                clear hb2 hcs hct
                go_wp2_with fail
                refine Hcall.out.mono ?_
                rintro e w8 ⟨rfl, q2, rfl⟩
                go_wp2_with fail
                go_roundw
                case rel => exact ⟨m + 1, _, bm + 1, by omega, by go_num, by go_num, by first | rfl | exact World.drewN_drewN _ _ _, Hbm2.out⟩
                case measure => simp [intOf]; omega
              · obtain rfl : m = v.p.length := by omega
                have Hbm := Lib.hid hbm
                clear hbm
                go_wp2_with fail
                go_roundw
                case rel => exact ⟨k + 1, by omega, by go_num, by rw [Hsn.out, Hbm.out], Hl2.out.drewN q⟩
                case measure => simp [intOf]; omega
          · obtain rfl : k = n.nodes.length := by omega
            rw [← Hpd.out]
            have hl6 := Hl5.out.trans hlw
            have x0 : wr.cell? ⟨w.heap.size, 0, none⟩ = some (.slice A n.inn.length c) := by rw [(hlw.blk Hk5.out).cell]; rfl
            have x1 : wr.cell? ⟨w.heap.size, 1, none⟩ = some (.slice N n.nodes.length d) := by rw [(hlw.blk Hk5.out).cell]; rfl
            clear y1
            have Hl6 := Lib.hid hl6
            have Hlw := Lib.hid hlw
            clear hl6 hlw
            go_wp2_with fail
            refine (ref_11 A N c d n _ Hok.out (HR.out.below Hl6.out (Nat.le_refl _))).mono ?_
            rintro e w7 ⟨N', d', rfl, hR7, hd7, hm7, hb7⟩
            have hl7 := Hl6.out.call hb7
            clear x0 x1 hb7
            have Hl7 := Lib.hid hl7
            have HR7 := Lib.hid hR7
            clear hl7 hR7
            go_wp2_with fail
            refine (ref11_users A N' c d' n id _ Hok.out HR7.out).mono ?_
            rintro e w8 ⟨rfl, hb8⟩
            rw [← Huc.out]
            have hl8 := Hl7.out.call hb8
            clear hb8
            have Hl8 := Lib.hid hl8
            clear hl8
            go_wp2_with fail
            refine (awake11 _).mono ?_
            rintro e w9 ⟨rfl, hb9⟩
            go_wp2_with fail
            go_ret
            exact ⟨rfl, Hl8.out.call hb9⟩
end Go.Proofs.Ytjkhpbngpceenaa
namespace Go.Proofs.Ytjkhpbngpceenaa.netUsers
open Go.ChangeShapes Go.WideShapes Go.ChangeAt Go.RowKit
open Go.ChangeMaps (open_string shut_string)

theorem own : ownKnob Try.prog.godebug = none := by kernel_rfl
theorem laidOut : laidOutB Try.prog = true := by kernel_rfl

set_option maxRecDepth 100000 in
theorem lifted (os : Os) (started : os.Started) (H : Type) (enc : TypeId × Value → H) (Fi : Stop.Interp) :
    ReturnsInHanded {} Try.checked os 7 .any ((Rows.OpenSpec.upto Rows.netUsersSpec).pre6 enc Try.prog Try.f7 Rows.netUsersUptoRow.domain false) (((Rows.OpenSpec.upto Rows.netUsersSpec).at Fi).post enc Try.prog Try.f7 false true false false) := by
  refine returnsInHanded_of_cond (C := Try.checked) (s := Rows.OpenSpec.upto Rows.netUsersSpec) (k := Rows.uptoSmall) rfl own started (by kernel_rfl) Try.func7
    (OpenSpec.witness (enc := enc) (C := Try.checked) (s := Rows.OpenSpec.upto Rows.netUsersSpec) (k := Rows.uptoSmall) rfl false ⟨#[], #[.agg #[.slice none 0 0, .slice none 0 0], .int .i64 0], []⟩ 8 (by kernel_rfl) (by kernel_rfl) (by kernel_rfl)
      (x := ([.agg [.nil, .nil], .lit (.int .i64 0)], [], [])) (by kernel_rfl) rfl (by kernel_rfl)) ?_
  intro W base args ds gs before hval0 hW hcnd hbulk _
  have hval : ∀ (j : Nat) t v, Try.f7.params[j]? = some t → args[j]? = some v → Value.okWide Try.prog W .any base t v := hval0
  have hW' := hW
  obtain ⟨p, q, hA0, hV, rfl, hfz, hnd⟩ := hW
  have hA : DataW.TrodAll enc Try.prog W 0 (fun _ => true) true Try.f7.params.toList args.toList ds p := hA0
  rw [Try.params7] at hA hval
  obtain ⟨v0, vs0, d0, ds0, p0, q0, hargs, rfl, rfl, h0, r0⟩ := trodAll_cons hA
  obtain ⟨v1, vs1, d1, ds1, p1, q1, rfl, rfl, rfl, h1, r1⟩ := trodAll_cons r0
  obtain ⟨rfl, rfl, rfl⟩ := trodAll_nil r1
  obtain rfl : args = #[v0, v1] := by cases args; simp_all
  obtain ⟨rfl, rfl⟩ := trodVars_none hV
  have hbk : Rows.uptoBulkAll ([d0, d1] ++ []) ≤ 1048576 := of_decide_eq_true hbulk
  have hz0 : Rows.uptoBulk d0 ≤ 1048576 := Nat.le_trans (bulk_part (by simp)) hbk
  have k0 := h0
  have lt0 : ∀ x ∈ p0, x.block < W.heap.size := by obtain ⟨m, hm⟩ := k0; exact DataW.trod_lt m _ _ _ hm
  have k1 := h1
  have lt1 : ∀ x ∈ p1, x.block < W.heap.size := by obtain ⟨m, hm⟩ := k1; exact DataW.trod_lt m _ _ _ hm
  obtain ⟨A0, N0, c10, c20, n0, rfl, la0, lb0, lc0, ld0, hS0, hw0⟩ := net_open (hval 0 26 v0 rfl rfl) h0 hz0
  obtain ⟨a1, rfl, rfl, rfl, w1⟩ := open_int Try.underlying3 (hval 1 3 v1 rfl rfl) h1
  clear hA0 hval0
  refine (walkNetUsers W A0 N0 c10 c20 n0 la0 lb0 lc0 ld0 hS0 hw0 a1 w1).mono fun e W' ⟨he, bel⟩ => ?_
  subst he
  exact ⟨_, rfl, _, _, _, [], _, [], hW', trodAll_mk1 (shut_bool Try.underlying4 _), (trodAll_cons_mk (Below.trod laidOut (by kernel_rfl) (of_decide_eq_true (by kernel_rfl)) k0 bel lt0) (trodAll_cons_mk (Below.trod laidOut (by kernel_rfl) (of_decide_eq_true (by kernel_rfl)) k1 bel lt1) trodAll_mk0)), rfl, bel.frame _, fun h => by cases h⟩

theorem over : Rows.netUsersUptoRow.holds Try.pinned (Rows.OpenSpec.upto Rows.netUsersSpec) :=
  OpenClaim.holds_of_cond 7 Try.f7 rfl rfl rfl rfl rfl rfl rfl ⟨rfl, rfl, rfl, rfl, rfl⟩ rfl rfl rfl rfl rfl (by kernel_rfl) Try.func7 (by kernel_rfl)
    (of_decide_eq_true (by kernel_rfl)) (by unfold Func.isWrapper; first | (rw [if_pos (by decide +kernel)]; kernel_rfl) | (rw [if_neg (by decide +kernel)]; exact ⟨rfl, rfl⟩))
    (fun os started H enc _ Fi => lifted os started H enc Fi)
end Go.Proofs.Ytjkhpbngpceenaa.netUsers
namespace Go.Proofs.Ytjkhpbngpceenaa
theorem netUsers_holds : Rows.NetUsersUptoSaid := netUsers.over
#print axioms netUsers_holds
end Go.Proofs.Ytjkhpbngpceenaa
