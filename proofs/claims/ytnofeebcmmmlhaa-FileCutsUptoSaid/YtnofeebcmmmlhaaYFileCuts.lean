/- The statement Rows.FileCutsUptoSaid is proved: for every input the law 'athanorlaw12.FileCuts' returns true, and each argument reads afterwards as it read before. Conditions: those of the row, no others. -/
import Derived.Below
import Derived.ChangeOld
import Derived.Deep.RegionHeld3
import Derived.JoinedCond
import Derived.Lib.ConvBytes
import Derived.OpenShut
import Derived.ProofKit
import Derived.ShutString
import Derived.WalkKit
import Derived.Test.YtnofeebcmmmlhaaRows
import Derived.Test.YtnofeebcmmmlhaaZ09
set_option linter.unusedVariables false
/- The walk of the law FileCuts. -/
namespace Go.Proofs.Ytnofeebcmmmlhaa
open Go.RowKit
theorem bytesWorld_ints (w : World) (e : TypeId) (s : ByteArray) : Ints .u8 (Lib.bytesWorld w e s) (some ⟨w.heap.size, 0, none⟩) (numsOf s) := Ints.of_row fun j hj => by
  rw [numsOf_length] at hj
  rw [Nat.zero_add, Lib.bytesWorld_cell w e s j hj]
  have : j < s.data.toList.length := by simpa using hj
  simp [numsOf, List.getD, hj]
theorem bytesWorld_below (w : World) (e : TypeId) (s : ByteArray) : Below w.heap.size w (Lib.bytesWorld w e s) :=
  ⟨rfl, rfl, rfl, by rw [Lib.bytesWorld_size]; omega, fun k hk => Lib.bytesWorld_at_old w e s k hk⟩
theorem cut_code {s : NetD} (h : Fn.fitsN s) (hc : Nt.check s = 0) {n : Nat} (h4 : 4 ≤ n) (hn : n ≤ (Fn.body s).length) : (Fn.dec ((Fn.body s).take n ++ Fp.big (Fp.sum ((Fn.body s).take n)) 4)).1 = if n = (Fn.body s).length then 0 else 16 := by
  by_cases hq : n = (Fn.body s).length
  · rw [if_pos hq, hq, List.take_length]
    have := Fn.dec_enc h hc
    rw [Fn.enc] at this
    rw [this]
  · rw [if_neg hq]
    exact Fn.dec_cut h (List.take_append_drop n _) (by intro e; have := congrArg List.length e; rw [List.length_drop] at this; simp at this; omega) (by rw [List.length_take]; omega)
theorem body_drop (s : NetD) : (Fn.body s).drop 4 = Fn.tail s := by
  rw [Fn.body_eq, List.drop_append_of_le_length (by rw [Fp.big_length]; omega), List.drop_eq_nil_of_le (by rw [Fp.big_length]; omega)]; rfl
theorem other_code {s : NetD} (h : Fn.fitsN s) : (Fn.dec (([65, 84, 72, 50] ++ (Fn.body s).drop 4) ++ Fp.big (Fp.sum ([65, 84, 72, 50] ++ (Fn.body s).drop 4)) 4)).1 = 10 := by
  rw [body_drop]; exact Fn.dec_other h rfl (by decide)
theorem long_code {s : NetD} (h : Fn.fitsN s) (hc : Nt.check s = 0) (more : List Int) : (Fn.dec ((Fn.body s ++ more) ++ Fp.big (Fp.sum (Fn.body s ++ more)) 4)).1 = if more.length = 0 then 0 else 10 := by
  rw [Fn.dec_long h hc]; split <;> rfl
def DecQ (bs : List Int) (w : World) (e : Ending) (w' : World) : Prop :=
  ∃ A N n1 n2 c1 c2, e = .returned (.tuple #[.agg #[.slice A n1 c1, .slice N n2 c2], .int .i64 (Fn.dec bs).1]) ∧ Below w.heap.size w w'
theorem decode_any (A : Option Addr) (c : Nat) (bs : List Int) (k : Nat) (w : World) (hk : bs.length = k) (hI : Ints .u8 w A bs) (hcap : k ≤ c) (hlen : k ≤ 1000000000) (hby : ∀ x ∈ bs, 0 ≤ x ∧ x ≤ 255) :
    Calls Try.prog 8 #[.slice A k c] w (DecQ bs w) := by
  subst hk
  refine (file_decode A c bs w hI hcap hlen hby).mono ?_
  rintro e w1 ⟨⟨_, rfl, _⟩ | ⟨he, A, N, c1, c2, rfl, _⟩, h1⟩
  · exact ⟨_, _, _, _, _, _, rfl, h1⟩
  · exact ⟨A, N, _, _, c1, c2, by rw [show Fn.dec bs = Fn.decode bs (Fp.openE bs) (Fp.body bs) from rfl, he], h1⟩
theorem text_dec {X : List Int} (hX : ∀ x ∈ X, 0 ≤ x ∧ x ≤ 255) (hl : X.length ≤ 300000000) (W : World) (S B : ByteArray) (hS : strOfNums X = S) (hB : strOfNums (Fp.big (Fp.sum X) 4) = B) :
    Calls Try.prog 8 #[.slice (some ⟨W.heap.size, 0, none⟩) (S.size + B.size) (grownCap W (S.size + B.size) 0 5)] (Lib.bytesWorld W 5 (S ++ B)) fun e w' => ∃ A N n1 n2 c1 c2, e = .returned (.tuple #[.agg #[.slice A n1 c1, .slice N n2 c2], .int .i64 (Fn.dec (X ++ Fp.big (Fp.sum X) 4)).1]) ∧ Below W.heap.size W w' := by
  have hz : S.size + B.size = X.length + 4 := by rw [← hS, ← hB, strOfNums_size, strOfNums_size, Fp.big_length]
  have hI := bytesWorld_ints W 5 (S ++ B)
  rw [← hS, ← hB, ← strOfNums_append, numsOf_str (seal_byte hX)] at hI
  rw [hz, ← hS, ← hB, ← strOfNums_append]
  refine (decode_any _ _ _ _ _ (seal_len X) hI (grownCap_ge _ _ _ _) (by omega) (seal_byte hX)).mono ?_
  rintro e w' ⟨A, N, n1, n2, c1, c2, rfl, hb⟩
  exact ⟨A, N, n1, n2, c1, c2, rfl, (bytesWorld_below W _ _).trans (hb.mono (bytesWorld_below W _ _).size)⟩

theorem str_take (l : List Int) (n : Nat) (c : Nat) {w : World} {b off : Nat} (h : Ints .u8 w (some ⟨b, off, none⟩) l) (hn : n ≤ l.length) : (convert 22 9 (.slice (some ⟨b, off, none⟩) n c)).run Try.prog w = .ok (.string (strOfNums (l.take n))) w := by
  have a := run_string_of c 22 5 9 Try.underlying22 Try.underlying5 Try.underlying9 (h.taken n)
  rwa [List.length_take, Nat.min_eq_left hn] at a
theorem four_str : strOfNums [65, 84, 72, 50] = ⟨#[65, 84, 72, 50]⟩ := by decide +kernel
set_option maxHeartbeats 8000000 in
set_option maxRecDepth 100000 in
theorem walkFileCuts (w : World) (A N : Option Addr) (c d : Nat) (n : NetD) (_la : n.inn.length ≤ c) (_lb : c ≤ 9223372036854775807) (lb : n.nodes.length ≤ d) (_ld : d ≤ 9223372036854775807) (hR : NetR w A N n) (hf : n.fits)
    (cut : Int) (hcut : (Lit.int .i64 cut).wf = true) (A2 : Option Addr) (c2 : Nat) (bs : List Int) (hl : bs.length ≤ 9223372036854775807) (hI : Ints .u8 w A2 bs) (hbw : ∀ n ∈ bs, (Lit.int .u8 n).wf = true) :
    Calls Try.prog 4 #[.agg #[.slice A n.inn.length c, .slice N n.nodes.length d], .int .i64 cut, .slice A2 bs.length c2] w fun e w' => e = .returned (.bool true) ∧ Below w.heap.size w w' := by
  have hok := hf.ok
  have ⟨hcl, hch⟩ := wf_bd hcut
  have hbb := byte_of hbw
  have hk0 := Blk.new w 28 #[.slice A n.inn.length c, .slice N n.nodes.length d]
  have hb0 : Below w.heap.size w (w.alloc (.cells #[.slice A n.inn.length c, .slice N n.nodes.length d] 28)) := (Below.refl _ _).alloc (Nat.le_refl _) _
  have HR := Lib.hid hR
  have Hok := Lib.hid hok
  have Hk0 := Lib.hid hk0
  have HI := Lib.hid hI
  have Hbb := Lib.hid hbb
  clear hR hok hk0 hI hbb
  clear hbw hcut hf
  go_enter Try.func4, Try.ntmps4
  go_wp2_with fail
  refine (small_12 A N c d n _ Hok.out (HR.out.below hb0 (Nat.le_refl _))).mono ?_
  rintro e w1 ⟨sm, rfl, h1⟩
  have hk1 := Hk0.out.below h1 Hk0.out.lt
  have hb1 := hb0.trans (h1.mono hb0.size)
  clear h1 hb0 Hk0
  by_cases h50 : 50 < bs.length
  · have q5 : decide ((50 : Int) < (bs.length : Int)) = true := by simp; omega
    clear hk1
    cases sm
    all_goals
      go_wp2_with fail
      refine (awake12 _).mono ?_
      rintro e w2 ⟨rfl, h2⟩
      have hb2 := hb1.trans (h2.mono hb1.size)
      go_wp2_with fail
      go_ret
      exact ⟨rfl, hb2⟩
  have q5 : decide ((50 : Int) < (bs.length : Int)) = false := by simp; omega
  cases sm
  · clear hk1
    go_wp2_with fail
    refine (awake12 _).mono ?_
    rintro e w2 ⟨rfl, h2⟩
    have hb2 := hb1.trans (h2.mono hb1.size)
    go_wp2_with fail
    go_ret
    exact ⟨rfl, hb2⟩
  have e0 := hk1.cell 0
  have e1 := hk1.cell 1
  simp at e0 e1
  clear hk1
  go_wp2_with fail
  refine (file_encode A N c d n _ Hok.out (HR.out.below hb1 (Nat.le_refl _)) lb).mono ?_
  rintro e w2 ⟨hcase, h2⟩
  have hb2 := hb1.trans (h2.mono hb1.size)
  clear e0 e1 h2 hb1
  by_cases hch0 : Nt.check n = 0
  rotate_left
  · rcases hcase with ⟨_, rfl⟩ | ⟨h0, _⟩
    case inr => exact absurd h0 hch0
    have hne : (Nt.check n != 0) = true := by simp [hch0]
    clear hch0
    generalize Nt.check n = er at *
    go_wp2_with fail
    refine (awake12 _).mono ?_
    rintro e w3 ⟨rfl, h3⟩
    have hb3 := hb2.trans (h3.mono hb2.size)
    go_wp2_with fail
    go_ret
    exact ⟨rfl, hb3⟩
  rcases hcase with ⟨h0, _⟩ | ⟨_, A3, c3, rfl, hI3, hc3⟩
  · exact absurd hch0 h0
  have hfit := Fn.fitsN_of Hok.out hch0
  have htiny := Fn.check_tiny hch0
  have hel := Fn.enc_len n
  have hb4 := Fn.body_len4 n
  have hbl : (Fn.body n).length ≤ 200000000 := by
    have h1 := Fn.flat_le Fn.nodeB n.nodes 190000 fun v hv => Fn.node_len (htiny.2.2 v hv)
    have h2 := Fn.head_len (n := n)
    unfold Fn.body
    rw [List.length_append]
    have : n.nodes.length * 190000 ≤ 512 * 190000 := Nat.mul_le_mul_right _ htiny.2.1
    omega
  obtain ⟨b3, o3, rfl, -, -⟩ := hI3 0 (by omega)
  obtain ⟨m, hm, hm4, hmL⟩ : ∃ m : Nat, min (max cut 4) ((Fn.body n).length : Int) = m ∧ 4 ≤ m ∧ m ≤ (Fn.body n).length := ⟨(min (max cut 4) ((Fn.body n).length : Int)).toNat, by omega, by omega, by omega⟩
  have HF1 := Lib.hid (cut_code hfit hch0 hm4 hmL)
  have HF2 := Lib.hid (long_code hfit hch0 bs)
  have HF3 := Lib.hid (other_code hfit)
  have HB := Lib.hid (Fn.body_byte n)
  have HB1 := Lib.hid (show ∀ x ∈ (Fn.body n).take m, 0 ≤ x ∧ x ≤ 255 from fun x hx => HB.out x (List.mem_of_mem_take hx))
  have HB2 := Lib.hid (show ∀ x ∈ Fn.body n ++ bs, 0 ≤ x ∧ x ≤ 255 from fun x hx => by rcases List.mem_append.1 hx with h | h; exact HB.out x h; exact Hbb.out x h)
  have HB3 := Lib.hid (show ∀ x ∈ [65, 84, 72, 50] ++ (Fn.body n).drop 4, 0 ≤ x ∧ x ≤ 255 from fun x hx => by rcases List.mem_append.1 hx with h | h; (simp at h; omega); exact HB.out x (List.mem_of_mem_drop h))
  have l1 : ((Fn.body n).take m).length ≤ 300000000 := by rw [List.length_take]; omega
  have l2 : (Fn.body n ++ bs).length ≤ 300000000 := by rw [List.length_append]; omega
  have l3 : ([65, 84, 72, 50] ++ (Fn.body n).drop 4).length ≤ 300000000 := by rw [List.length_append, List.length_drop]; simp; omega
  have hcv : ∀ W, Below w2.heap.size w2 W → (convert 22 9 (.slice (some ⟨b3, o3, none⟩) m c3)).run Try.prog W = .ok (.string (strOfNums ((Fn.body n).take m))) W ∧ (convert 22 9 (.slice (some ⟨b3, o3, none⟩) (Fn.body n).length c3)).run Try.prog W = .ok (.string (strOfNums (Fn.body n))) W ∧ (convert 22 9 (.slice A2 bs.length c2)).run Try.prog W = .ok (.string (strOfNums bs)) W := fun W hW => by
    have q := hI3.below hW (Nat.le_refl _)
    have a1 := str_take (Fn.enc n) m c3 q (by omega)
    have a2 := str_take (Fn.enc n) (Fn.body n).length c3 q (by omega)
    have a3 := run_string_of c2 22 5 9 Try.underlying22 Try.underlying5 Try.underlying9 (HI.out.below (hb2.trans (hW.mono hb2.size)) (Nat.le_refl _))
    have e1 : (Fn.enc n).take m = (Fn.body n).take m := by unfold Fn.enc; rw [List.take_append_of_le_length hmL]
    have e2 : (Fn.enc n).take (Fn.body n).length = Fn.body n := by unfold Fn.enc; rw [List.take_append_of_le_length (Nat.le_refl _), List.take_length]
    rw [e1] at a1
    rw [e2] at a2
    exact ⟨a1, a2, a3⟩
  have hcv4 : ∀ W, Below w2.heap.size w2 W → (convert 22 9 (.slice (some ⟨b3, o3 + 4, none⟩) ((Fn.body n).length - 4) (c3 - 4))).run Try.prog W = .ok (.string (strOfNums ((Fn.body n).drop 4))) W := fun W hW => by
    have q := (hI3.below hW (Nat.le_refl _)).dropped 4
    have a1 := str_take ((Fn.enc n).drop 4) ((Fn.body n).length - 4) (c3 - 4) q (by rw [List.length_drop]; omega)
    have e1 : ((Fn.enc n).drop 4).take ((Fn.body n).length - 4) = (Fn.body n).drop 4 := by
      unfold Fn.enc
      rw [List.drop_append_of_le_length hb4, List.take_append_of_le_length (by rw [List.length_drop]; exact Nat.le_refl _), List.take_of_length_le (by rw [List.length_drop]; exact Nat.le_refl _)]
    rwa [e1] at a1
  have hsz : (strOfNums (Fn.body n)).size = (Fn.body n).length := strOfNums_size _
  have hmz : (strOfNums bs).size ≤ 50 := by rw [strOfNums_size]; omega
  have hx1 : (strOfNums ((Fn.body n).take m)).size ≤ 300000000 := by rw [strOfNums_size]; exact l1
  have hx3 : (strOfNums ((Fn.body n).drop 4)).size ≤ 300000000 := by rw [strOfNums_size, List.length_drop]; omega
  have HT2 := Lib.hid (strOfNums_append (Fn.body n) bs)
  have HT3 := Lib.hid (show strOfNums ([65, 84, 72, 50] ++ (Fn.body n).drop 4) = ⟨#[65, 84, 72, 50]⟩ ++ strOfNums ((Fn.body n).drop 4) by rw [strOfNums_append, four_str])
  have HS1 := Lib.hid (rfl : strOfNums ((Fn.body n).take m) = strOfNums ((Fn.body n).take m))
  rw [hel]
  have Hcv := Lib.hid hcv
  have Hcv4 := Lib.hid hcv4
  clear hcv hcv4
  clear hfit htiny hch0 hI3 HB Hbb HR Hok
  generalize (Fn.body n).take m = X1 at *
  generalize Fn.body n ++ bs = X2 at *
  generalize [65, 84, 72, 50] ++ (Fn.body n).drop 4 = X3 at *
  generalize strOfNums ((Fn.body n).drop 4) = s3 at *
  generalize strOfNums (Fn.body n) = s0 at *
  generalize strOfNums bs = sb at *
  generalize hL : (Fn.body n).length = L at *
  have w1 : ((L + 4 : Nat) : Int) - 4 = L := by omega
  have w2' : IntKind.i64.wrap (((L + 4 : Nat) : Int) - 4) = L := by rw [w1]; exact IntWalk.i64_in _ (by omega)
  have w3' : IntKind.i64.wrap (L : Int) = L := IntWalk.i64_in _ (by omega)
  have w4' : ((L : Int)).toNat = L := by omega
  have w5' : IntKind.i64.wrap (m : Int) = m := IntWalk.i64_in _ (by omega)
  have w6' : ((m : Int)).toNat = m := by omega
  have y1 : L ≤ c3 := by omega
  have y9 : c3 ≠ 4 := by omega
  have y2 : m ≤ c3 := by omega
  have y3 : (L : Int) ≤ c3 := by omega
  have y4 : (m : Int) ≤ c3 := by omega
  have y5 : (4 : Int) ≤ L := by omega
  have y6 : 4 ≤ L := by omega
  have y7 : decide (((L + 4 : Nat) : Int) < 8) = false := by simp; omega
  have y8 : ¬ 9223372036854775807 < L + sb.size := by omega
  clear hel hbl hb4
  go_upto_region 8 with fail
  have hb3 : Below w2.heap.size w2 w2.drew := (Below.refl _ _).drew
  obtain ⟨a1, a2, a3⟩ := Hcv.out _ hb3
  have kcs := fun (w : World) (s : ByteArray) => Lib.run_convert_string_bytes (P := Try.prog) w 9 22 5 s Try.underlying9 Try.underlying22 Try.underlying5
  have Hkcs := Lib.hid kcs
  clear kcs
  go_region_held3 (fun W => (convert 22 9 (.slice (some ⟨b3, o3, none⟩) m c3)).run Try.prog W = .ok (.string (strOfNums X1)) W ∧ (convert 22 9 (.slice (some ⟨b3, o3, none⟩) L c3)).run Try.prog W = .ok (.string s0) W ∧ (convert 22 9 (.slice A2 bs.length c2)).run Try.prog W = .ok (.string sb) W) (first | exact Hcv.out _ hb3 | fail) (fail)
  clear a1 a2 a3 y2 y4 y8 w5' w6'
  rw [← HT2.out]
  have hb4 := hb3
  have kcs := Hkcs.out
  go_wp2_with fail
  refine (text_sum HB1.out l1 _).mono ?_
  rintro e wz1 ⟨rfl, rfl⟩
  go_wp2_with fail
  refine (text_big X1 _).mono ?_
  rintro e wa1 ⟨rfl, ha1⟩
  have hba1 := hb4.trans (ha1.mono hb4.size)
  have hbz1 : (strOfNums (Fp.big (Fp.sum X1) 4)).size ≤ 4 := str_size_le (by rw [Fp.big_length]; omega)
  have htz1 : (strOfNums X1).size ≤ 300000000 := by rw [strOfNums_size]; exact l1
  have hdc1 := text_dec HB1.out l1 wa1 _ _ rfl rfl
  have Hdc1 := Lib.hid hdc1
  clear hdc1
  generalize strOfNums (Fp.big (Fp.sum X1) 4) = B1 at *
  generalize strOfNums X1 = T1 at *
  clear ha1 hb4
  go_wp2_with fail
  refine Hdc1.out.mono ?_
  rintro e wd1 ⟨A1d, N1d, n11, n12, k11, k12, rfl, hd1⟩
  generalize (Fn.dec (X1 ++ Fp.big (Fp.sum X1) 4)).1 = f1 at *
  have hbd1 := hba1.trans (hd1.mono hba1.size)
  have hbe1 := hbd1.alloc hbd1.size (.cells #[.slice A1d n11 k11, .slice N1d n12 k12] 28)
  clear hd1 hbd1 Hdc1 hba1 htz1 hbz1
  go_wp2_with fail
  refine (text_sum HB2.out l2 _).mono ?_
  rintro e wz2 ⟨rfl, rfl⟩
  go_wp2_with fail
  refine (text_big X2 _).mono ?_
  rintro e wa2 ⟨rfl, ha2⟩
  have hba2 := hbe1.trans (ha2.mono hbe1.size)
  have hbz2 : (strOfNums (Fp.big (Fp.sum X2) 4)).size ≤ 4 := str_size_le (by rw [Fp.big_length]; omega)
  have htz2 : (strOfNums X2).size ≤ 300000000 := by rw [strOfNums_size]; exact l2
  have hdc2 := text_dec HB2.out l2 wa2 _ _ rfl rfl
  have Hdc2 := Lib.hid hdc2
  clear hdc2
  generalize strOfNums (Fp.big (Fp.sum X2) 4) = B2 at *
  generalize strOfNums X2 = T2 at *
  clear ha2 hbe1
  go_wp2_with fail
  refine Hdc2.out.mono ?_
  rintro e wd2 ⟨A2d, N2d, n21, n22, k21, k22, rfl, hd2⟩
  generalize (Fn.dec (X2 ++ Fp.big (Fp.sum X2) 4)).1 = f2 at *
  have hbd2 := hba2.trans (hd2.mono hba2.size)
  have hbe2 := hbd2.alloc hbd2.size (.cells #[.slice A2d n21 k21, .slice N2d n22 k22] 28)
  clear hd2 hbd2 Hdc2 hba2 htz2 hbz2
  have a4 := Hcv4.out _ hbe2
  have z1 : ¬ 9223372036854775807 < 4 + s3.size := by omega
  go_upto_region 12 with fail
  rw [← HT3.out]
  clear a4 z1
  go_wp2_with fail
  refine (text_sum HB3.out l3 _).mono ?_
  rintro e wz3 ⟨rfl, rfl⟩
  go_wp2_with fail
  refine (text_big X3 _).mono ?_
  rintro e wa3 ⟨rfl, ha3⟩
  have hba3 := hbe2.trans (ha3.mono hbe2.size)
  have hbz3 : (strOfNums (Fp.big (Fp.sum X3) 4)).size ≤ 4 := str_size_le (by rw [Fp.big_length]; omega)
  have htz3 : (strOfNums X3).size ≤ 300000000 := by rw [strOfNums_size]; exact l3
  have hdc3 := text_dec HB3.out l3 wa3 _ _ rfl rfl
  have Hdc3 := Lib.hid hdc3
  clear hdc3
  generalize strOfNums (Fp.big (Fp.sum X3) 4) = B3 at *
  generalize strOfNums X3 = T3 at *
  clear ha3 hbe2
  go_wp2_with fail
  refine Hdc3.out.mono ?_
  rintro e wd3 ⟨A3d, N3d, n31, n32, k31, k32, rfl, hd3⟩
  generalize (Fn.dec (X3 ++ Fp.big (Fp.sum X3) 4)).1 = f3 at *
  have hbd3 := hba3.trans (hd3.mono hba3.size)
  have hbe3 := hbd3.alloc hbd3.size (.cells #[.slice A3d n31 k31, .slice N3d n32 k32] 28)
  clear hd3 hbd3 Hdc3 hba3 htz3 hbz3
  have hbw := hb2.trans (hbe3.mono hb2.size)
  have hf1 := HF1.out
  have hf2 := HF2.out
  have hf3 := HF3.out
  subst hf3
  clear kcs hbe3 HF1 HF2 HF3
  by_cases hq : m = L
  · subst hq
    by_cases hz : bs.length = 0
    all_goals
      simp only [hz, if_true, if_false] at hf1 hf2
      subst hf1 hf2
      go_wp2_with fail
      refine (awake12 _).mono ?_
      rintro e w10 ⟨rfl, h10⟩
      have hb10 := hbw.trans (h10.mono hbw.size)
      go_wp2_with fail
      go_ret
      first
        | exact ⟨rfl, hb10⟩
        | (have hz0 : ((bs.length : Int) == 0) = false := by rw [beq_eq_false_iff_ne]; omega
           exact ⟨by show Ending.returned (.bool !((bs.length : Int) == 0)) = _; rw [hz0]; rfl, hb10⟩)
  · have hq' : ((m : Int) == L) = false := by simp; omega
    by_cases hz : bs.length = 0
    all_goals
      simp only [hz, hq, if_true, if_false] at hf1 hf2
      subst hf1 hf2
      go_wp2_with fail
      refine (awake12 _).mono ?_
      rintro e w10 ⟨rfl, h10⟩
      have hb10 := hbw.trans (h10.mono hbw.size)
      go_wp2_with fail
      go_ret
      first
        | exact ⟨rfl, hb10⟩
        | (have hz0 : ((bs.length : Int) == 0) = false := by rw [beq_eq_false_iff_ne]; omega
           exact ⟨by show Ending.returned (.bool !((bs.length : Int) == 0)) = _; rw [hz0]; rfl, hb10⟩)
end Go.Proofs.Ytnofeebcmmmlhaa
namespace Go.Proofs.Ytnofeebcmmmlhaa.fileCuts
open Go.ChangeShapes Go.WideShapes Go.ChangeAt Go.RowKit
open Go.ChangeMaps (open_string shut_string)

theorem own : ownKnob Try.prog.godebug = none := by kernel_rfl
theorem laidOut : laidOutB Try.prog = true := by kernel_rfl

set_option maxRecDepth 100000 in
theorem lifted (os : Os) (started : os.Started) (H : Type) (enc : TypeId × Value → H) (Fi : Stop.Interp) :
    ReturnsInHanded {} Try.checked os 4 .any ((Rows.OpenSpec.upto Rows.fileCutsSpec).pre6 enc Try.prog Try.f4 Rows.fileCutsUptoRow.domain false) (((Rows.OpenSpec.upto Rows.fileCutsSpec).at Fi).post enc Try.prog Try.f4 false true false false) := by
  refine returnsInHanded_of_cond (C := Try.checked) (s := Rows.OpenSpec.upto Rows.fileCutsSpec) (k := Rows.uptoSmall) rfl own started (by kernel_rfl) Try.func4
    (OpenSpec.witness (enc := enc) (C := Try.checked) (s := Rows.OpenSpec.upto Rows.fileCutsSpec) (k := Rows.uptoSmall) rfl false ⟨#[], #[.agg #[.slice none 0 0, .slice none 0 0], .int .i64 0, .slice none 0 0], []⟩ 8 (by kernel_rfl) (by kernel_rfl) (by kernel_rfl)
      (x := ([.agg [.nil, .nil], .lit (.int .i64 0), .nil], [], [])) (by kernel_rfl) rfl (by kernel_rfl)) ?_
  intro W base args ds gs before hval0 hW hcnd hbulk _
  have hval : ∀ (j : Nat) t v, Try.f4.params[j]? = some t → args[j]? = some v → Value.okWide Try.prog W .any base t v := hval0
  have hW' := hW
  obtain ⟨p, q, hA0, hV, rfl, hfz, hnd⟩ := hW
  have hA : DataW.TrodAll enc Try.prog W 0 (fun _ => true) true Try.f4.params.toList args.toList ds p := hA0
  rw [Try.params4] at hA hval
  obtain ⟨v0, vs0, d0, ds0, p0, q0, hargs, rfl, rfl, h0, r0⟩ := trodAll_cons hA
  obtain ⟨v1, vs1, d1, ds1, p1, q1, rfl, rfl, rfl, h1, r1⟩ := trodAll_cons r0
  obtain ⟨v2, vs2, d2, ds2, p2, q2, rfl, rfl, rfl, h2, r2⟩ := trodAll_cons r1
  obtain ⟨rfl, rfl, rfl⟩ := trodAll_nil r2
  obtain rfl : args = #[v0, v1, v2] := by cases args; simp_all
  obtain ⟨rfl, rfl⟩ := trodVars_none hV
  have hbk : Rows.uptoBulkAll ([d0, d1, d2] ++ []) ≤ 1048576 := of_decide_eq_true hbulk
  have hz0 : Rows.uptoBulk d0 ≤ 1048576 := Nat.le_trans (bulk_part (by simp)) hbk
  have k0 := h0
  have lt0 : ∀ x ∈ p0, x.block < W.heap.size := by obtain ⟨m, hm⟩ := k0; exact DataW.trod_lt m _ _ _ hm
  have k1 := h1
  have lt1 : ∀ x ∈ p1, x.block < W.heap.size := by obtain ⟨m, hm⟩ := k1; exact DataW.trod_lt m _ _ _ hm
  have k2 := h2
  have lt2 : ∀ x ∈ p2, x.block < W.heap.size := by obtain ⟨m, hm⟩ := k2; exact DataW.trod_lt m _ _ _ hm
  obtain ⟨A0, N0, c10, c20, n0, rfl, la0, lb0, lc0, ld0, hS0, hw0⟩ := net_open (hval 0 28 v0 rfl rfl) h0 hz0
  obtain ⟨a1, rfl, rfl, rfl, w1⟩ := open_int Try.underlying3 (hval 1 3 v1 rfl rfl) h1
  obtain ⟨a2, len2, cap2, rfl⟩ := okWide_slice Try.underlying22 (hval 2 22 v2 rfl rfl)
  obtain ⟨zs2, hlen2, hl2, hI2, hw2⟩ : ∃ ys : List Int, ys.length = len2 ∧ ys.length ≤ 9223372036854775807 ∧ Ints .u8 W a2 ys ∧ ∀ n ∈ ys, (Lit.int .u8 n).wf = true := by
    obtain ⟨fuel, hf⟩ := h2
    rcases open_ints Try.underlying22 Try.underlying5 (by kernel_rfl) hf with ⟨hcs, _⟩ | ⟨x, l, c, zs, hcs, _, hl, hm, hz, _, hcell, hwz⟩
    · simp [Value.cells] at hcs
      obtain ⟨rfl, rfl, rfl⟩ := hcs
      exact ints_came (zs := []) (.inl ⟨rfl, rfl, rfl, rfl⟩)
    · simp [Value.cells] at hcs
      obtain ⟨rfl, rfl, rfl⟩ := hcs
      exact ints_came (.inr ⟨_, rfl, hl, hm, by simpa using hz, hcell, hwz⟩)
  subst hlen2
  clear hA0 hval0
  refine (walkFileCuts W A0 N0 c10 c20 n0 la0 lb0 lc0 ld0 hS0 hw0 a1 w1 a2 cap2 zs2 hl2 hI2 hw2).mono fun e W' ⟨he, bel⟩ => ?_
  subst he
  exact ⟨_, rfl, _, _, _, [], _, [], hW', trodAll_mk1 (shut_bool Try.underlying4 _), (trodAll_cons_mk (Below.trod laidOut (by kernel_rfl) (of_decide_eq_true (by kernel_rfl)) k0 bel lt0) (trodAll_cons_mk (Below.trod laidOut (by kernel_rfl) (of_decide_eq_true (by kernel_rfl)) k1 bel lt1) (trodAll_cons_mk (Below.trod laidOut (by kernel_rfl) (of_decide_eq_true (by kernel_rfl)) k2 bel lt2) trodAll_mk0))), rfl, bel.frame _, fun h => by cases h⟩

theorem over : Rows.fileCutsUptoRow.holds Try.pinned (Rows.OpenSpec.upto Rows.fileCutsSpec) :=
  OpenClaim.holds_of_cond 4 Try.f4 rfl rfl rfl rfl rfl rfl rfl ⟨rfl, rfl, rfl, rfl, rfl⟩ rfl rfl rfl rfl rfl (by kernel_rfl) Try.func4 (by kernel_rfl)
    (of_decide_eq_true (by kernel_rfl)) (by unfold Func.isWrapper; first | (rw [if_pos (by decide +kernel)]; kernel_rfl) | (rw [if_neg (by decide +kernel)]; exact ⟨rfl, rfl⟩))
    (fun os started H enc _ Fi => lifted os started H enc Fi)
end Go.Proofs.Ytnofeebcmmmlhaa.fileCuts
namespace Go.Proofs.Ytnofeebcmmmlhaa
theorem fileCuts_holds : Rows.FileCutsUptoSaid := fileCuts.over
#print axioms fileCuts_holds
end Go.Proofs.Ytnofeebcmmmlhaa
