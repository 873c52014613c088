/- Layer 27's statements: the fixed answer. -/
import Derived.Test.YtjgagbhbgehmpaaLawB
import Derived.Test.YtjgagbhbgehmpaaKeepW
import Derived.Test.YtjgagbhbgehmpaaKeepX
import Derived.Lib.SlBytesConst
namespace Go.Proofs.Ytjgagbhbgehmpaa
open Go.RowKit

def t1 : Ten := ⟨[1], [-1]⟩
def s1 : Sav := ⟨[t1], [t1], [⟨0, 0, 7, 0, 0, 0⟩]⟩
def s0 : Sav := ⟨[], [], []⟩
theorem s1_ok : Kq.okS s1 := by
  refine ⟨by decide, by decide, ?_, ?_, rfl, ?_⟩
  · intro t ht; simp [s1] at ht; subst ht; exact ⟨by decide, by simp [t1, Kq.inR]⟩
  · intro t ht; simp [s1] at ht; subst ht; exact ⟨by decide, by simp [t1, Kq.inR]⟩
  · intro m hm; simp [s1] at hm; subst hm; simp [Met.l, Kq.inR]
theorem s0_ok : Kq.okS s0 := by
  refine ⟨by decide, by decide, ?_, ?_, rfl, ?_⟩ <;> simp [s0]
theorem s1_small : s1.ok := by
  refine ⟨by decide, by decide, by decide, ?_, ?_⟩ <;> (intro t ht; simp [s1] at ht; subst ht; simp [t1])

theorem Blk.alloc4 {w : World} {g : Nat} {t : TypeId} {cs : Array Value} (h : Blk w g t cs) (a b c d : Obj) : Blk ((((w.alloc a).alloc b).alloc c).alloc d) g t cs := (((h.alloc a).alloc b).alloc c).alloc d
theorem awake_state (w1 : World) (g h : Nat) (hG : Blk w1 g 3 (t1.s.map (Value.int .i64)).toArray) (hH : Blk w1 h 52 (t1.c.map (Value.int .i64)).toArray) :
    SavR (((((w1.alloc (.cells #[.slice (some ⟨g, 0, none⟩) t1.s.length t1.s.length, .slice (some ⟨h, 0, none⟩) t1.c.length t1.c.length] 48)).alloc (.cells #[.slice (some ⟨g, 0, none⟩) t1.s.length t1.s.length, .slice (some ⟨h, 0, none⟩) t1.c.length t1.c.length] 48)).alloc (.cells #[.slice (some ⟨g, 0, none⟩) t1.s.length t1.s.length, .slice (some ⟨h, 0, none⟩) t1.c.length t1.c.length] 48)).alloc (.cells #[.int .i64 0, .int .i64 0, .int .i64 7, .int .i64 0, .int .i64 0, .int .i64 0] 54)).alloc (.cells #[.slice (some ⟨w1.heap.size + 1, 0, none⟩) 1 1, .slice (some ⟨w1.heap.size + 1 + 1, 0, none⟩) 1 1, .slice (some ⟨w1.heap.size + 1 + 1 + 1, 0, none⟩) 1 1] 27)) (some ⟨w1.heap.size + 1, 0, none⟩) (some ⟨w1.heap.size + 1 + 1, 0, none⟩) (some ⟨w1.heap.size + 1 + 1 + 1, 0, none⟩) s1 ∧ Below w1.heap.size w1 (((((w1.alloc (.cells #[.slice (some ⟨g, 0, none⟩) t1.s.length t1.s.length, .slice (some ⟨h, 0, none⟩) t1.c.length t1.c.length] 48)).alloc (.cells #[.slice (some ⟨g, 0, none⟩) t1.s.length t1.s.length, .slice (some ⟨h, 0, none⟩) t1.c.length t1.c.length] 48)).alloc (.cells #[.slice (some ⟨g, 0, none⟩) t1.s.length t1.s.length, .slice (some ⟨h, 0, none⟩) t1.c.length t1.c.length] 48)).alloc (.cells #[.int .i64 0, .int .i64 0, .int .i64 7, .int .i64 0, .int .i64 0, .int .i64 0] 54)).alloc (.cells #[.slice (some ⟨w1.heap.size + 1, 0, none⟩) 1 1, .slice (some ⟨w1.heap.size + 1 + 1, 0, none⟩) 1 1, .slice (some ⟨w1.heap.size + 1 + 1 + 1, 0, none⟩) 1 1] 27)) ∧ Blk (((((w1.alloc (.cells #[.slice (some ⟨g, 0, none⟩) t1.s.length t1.s.length, .slice (some ⟨h, 0, none⟩) t1.c.length t1.c.length] 48)).alloc (.cells #[.slice (some ⟨g, 0, none⟩) t1.s.length t1.s.length, .slice (some ⟨h, 0, none⟩) t1.c.length t1.c.length] 48)).alloc (.cells #[.slice (some ⟨g, 0, none⟩) t1.s.length t1.s.length, .slice (some ⟨h, 0, none⟩) t1.c.length t1.c.length] 48)).alloc (.cells #[.int .i64 0, .int .i64 0, .int .i64 7, .int .i64 0, .int .i64 0, .int .i64 0] 54)).alloc (.cells #[.slice (some ⟨w1.heap.size + 1, 0, none⟩) 1 1, .slice (some ⟨w1.heap.size + 1 + 1, 0, none⟩) 1 1, .slice (some ⟨w1.heap.size + 1 + 1 + 1, 0, none⟩) 1 1] 27)) (w1.heap.size + 1 + 1 + 1 + 1) 27 #[.slice (some ⟨w1.heap.size + 1, 0, none⟩) 1 1, .slice (some ⟨w1.heap.size + 1 + 1, 0, none⟩) 1 1, .slice (some ⟨w1.heap.size + 1 + 1 + 1, 0, none⟩) 1 1] := by
  have hb : Below w1.heap.size w1 (((((w1.alloc (.cells #[.slice (some ⟨g, 0, none⟩) t1.s.length t1.s.length, .slice (some ⟨h, 0, none⟩) t1.c.length t1.c.length] 48)).alloc (.cells #[.slice (some ⟨g, 0, none⟩) t1.s.length t1.s.length, .slice (some ⟨h, 0, none⟩) t1.c.length t1.c.length] 48)).alloc (.cells #[.slice (some ⟨g, 0, none⟩) t1.s.length t1.s.length, .slice (some ⟨h, 0, none⟩) t1.c.length t1.c.length] 48)).alloc (.cells #[.int .i64 0, .int .i64 0, .int .i64 7, .int .i64 0, .int .i64 0, .int .i64 0] 54)).alloc (.cells #[.slice (some ⟨w1.heap.size + 1, 0, none⟩) 1 1, .slice (some ⟨w1.heap.size + 1 + 1, 0, none⟩) 1 1, .slice (some ⟨w1.heap.size + 1 + 1 + 1, 0, none⟩) 1 1] 27)) := (((((Below.refl _ w1).alloc (Nat.le_refl _) (.cells #[.slice (some ⟨g, 0, none⟩) t1.s.length t1.s.length, .slice (some ⟨h, 0, none⟩) t1.c.length t1.c.length] 48)).alloc (by simp) (.cells #[.slice (some ⟨g, 0, none⟩) t1.s.length t1.s.length, .slice (some ⟨h, 0, none⟩) t1.c.length t1.c.length] 48)).alloc (by simp; omega) (.cells #[.slice (some ⟨g, 0, none⟩) t1.s.length t1.s.length, .slice (some ⟨h, 0, none⟩) t1.c.length t1.c.length] 48)).alloc (by simp; omega) (.cells #[.int .i64 0, .int .i64 0, .int .i64 7, .int .i64 0, .int .i64 0, .int .i64 0] 54)).alloc (by simp; omega) (.cells #[.slice (some ⟨w1.heap.size + 1, 0, none⟩) 1 1, .slice (some ⟨w1.heap.size + 1 + 1, 0, none⟩) 1 1, .slice (some ⟨w1.heap.size + 1 + 1 + 1, 0, none⟩) 1 1] 27)
  have p1 := ((Blk.new (w1.alloc (.cells #[.slice (some ⟨g, 0, none⟩) t1.s.length t1.s.length, .slice (some ⟨h, 0, none⟩) t1.c.length t1.c.length] 48)) 48 #[.slice (some ⟨g, 0, none⟩) t1.s.length t1.s.length, .slice (some ⟨h, 0, none⟩) t1.c.length t1.c.length]).alloc (.cells #[.slice (some ⟨g, 0, none⟩) t1.s.length t1.s.length, .slice (some ⟨h, 0, none⟩) t1.c.length t1.c.length] 48)).alloc (.cells #[.int .i64 0, .int .i64 0, .int .i64 7, .int .i64 0, .int .i64 0, .int .i64 0] 54) |>.alloc (.cells #[.slice (some ⟨w1.heap.size + 1, 0, none⟩) 1 1, .slice (some ⟨w1.heap.size + 1 + 1, 0, none⟩) 1 1, .slice (some ⟨w1.heap.size + 1 + 1 + 1, 0, none⟩) 1 1] 27)
  have p2 := (Blk.new ((w1.alloc (.cells #[.slice (some ⟨g, 0, none⟩) t1.s.length t1.s.length, .slice (some ⟨h, 0, none⟩) t1.c.length t1.c.length] 48)).alloc (.cells #[.slice (some ⟨g, 0, none⟩) t1.s.length t1.s.length, .slice (some ⟨h, 0, none⟩) t1.c.length t1.c.length] 48)) 48 #[.slice (some ⟨g, 0, none⟩) t1.s.length t1.s.length, .slice (some ⟨h, 0, none⟩) t1.c.length t1.c.length]).alloc (.cells #[.int .i64 0, .int .i64 0, .int .i64 7, .int .i64 0, .int .i64 0, .int .i64 0] 54) |>.alloc (.cells #[.slice (some ⟨w1.heap.size + 1, 0, none⟩) 1 1, .slice (some ⟨w1.heap.size + 1 + 1, 0, none⟩) 1 1, .slice (some ⟨w1.heap.size + 1 + 1 + 1, 0, none⟩) 1 1] 27)
  have p3 := (Blk.new (((w1.alloc (.cells #[.slice (some ⟨g, 0, none⟩) t1.s.length t1.s.length, .slice (some ⟨h, 0, none⟩) t1.c.length t1.c.length] 48)).alloc (.cells #[.slice (some ⟨g, 0, none⟩) t1.s.length t1.s.length, .slice (some ⟨h, 0, none⟩) t1.c.length t1.c.length] 48)).alloc (.cells #[.slice (some ⟨g, 0, none⟩) t1.s.length t1.s.length, .slice (some ⟨h, 0, none⟩) t1.c.length t1.c.length] 48)) 54 #[.int .i64 0, .int .i64 0, .int .i64 7, .int .i64 0, .int .i64 0, .int .i64 0]).alloc (.cells #[.slice (some ⟨w1.heap.size + 1, 0, none⟩) 1 1, .slice (some ⟨w1.heap.size + 1 + 1, 0, none⟩) 1 1, .slice (some ⟨w1.heap.size + 1 + 1 + 1, 0, none⟩) 1 1] 27)
  have p4 := Blk.new ((((w1.alloc (.cells #[.slice (some ⟨g, 0, none⟩) t1.s.length t1.s.length, .slice (some ⟨h, 0, none⟩) t1.c.length t1.c.length] 48)).alloc (.cells #[.slice (some ⟨g, 0, none⟩) t1.s.length t1.s.length, .slice (some ⟨h, 0, none⟩) t1.c.length t1.c.length] 48)).alloc (.cells #[.slice (some ⟨g, 0, none⟩) t1.s.length t1.s.length, .slice (some ⟨h, 0, none⟩) t1.c.length t1.c.length] 48)).alloc (.cells #[.int .i64 0, .int .i64 0, .int .i64 7, .int .i64 0, .int .i64 0, .int .i64 0] 54)) 27 #[.slice (some ⟨w1.heap.size + 1, 0, none⟩) 1 1, .slice (some ⟨w1.heap.size + 1 + 1, 0, none⟩) 1 1, .slice (some ⟨w1.heap.size + 1 + 1 + 1, 0, none⟩) 1 1]
  simp only [World.size_alloc] at p1 p2 p3 p4
  have hG' := hG.below hb hG.lt
  have hH' := hH.below hb hH.lt
  generalize (((((w1.alloc (.cells #[.slice (some ⟨g, 0, none⟩) t1.s.length t1.s.length, .slice (some ⟨h, 0, none⟩) t1.c.length t1.c.length] 48)).alloc (.cells #[.slice (some ⟨g, 0, none⟩) t1.s.length t1.s.length, .slice (some ⟨h, 0, none⟩) t1.c.length t1.c.length] 48)).alloc (.cells #[.slice (some ⟨g, 0, none⟩) t1.s.length t1.s.length, .slice (some ⟨h, 0, none⟩) t1.c.length t1.c.length] 48)).alloc (.cells #[.int .i64 0, .int .i64 0, .int .i64 7, .int .i64 0, .int .i64 0, .int .i64 0] 54)).alloc (.cells #[.slice (some ⟨w1.heap.size + 1, 0, none⟩) 1 1, .slice (some ⟨w1.heap.size + 1 + 1, 0, none⟩) 1 1, .slice (some ⟨w1.heap.size + 1 + 1 + 1, 0, none⟩) 1 1] 27)) = W at *
  have key : ∀ b, Blk W b 48 #[.slice (some ⟨g, 0, none⟩) t1.s.length t1.s.length, .slice (some ⟨h, 0, none⟩) t1.c.length t1.c.length] → Tens W (some ⟨b, 0, none⟩) [t1] := fun b hb j hj => by
    obtain rfl : j = 0 := by simpa using hj
    exact ⟨b, 0, _, _, _, _, rfl, hb.lt, hb.cell 0, hb.cell 1, ⟨hG'.ints, hH'.ints⟩, by simp [t1], by simp [t1]⟩
  refine ⟨⟨key _ p1, key _ p2, fun j hj => ?_⟩, hb, p4⟩
  obtain rfl : j = 0 := by simpa [s1] using hj
  exact ⟨_, 0, rfl, p3.lt, p3.cell 0, p3.cell 1, p3.cell 2, p3.cell 3, p3.cell 4, p3.cell 5⟩

set_option maxHeartbeats 4000000 in
set_option maxRecDepth 100000 in
theorem awake27 (w : World) : Calls Try.prog 8 #[] w fun e w' => e = .returned (.bool true) ∧ Below w.heap.size w w' := by
  have hb0 : Below w.heap.size w ((w.alloc (.cells #[.int .i64 1] 3)).alloc (.cells #[.int .i64 (-1)] 52)) := ((Below.refl _ _).alloc (Nat.le_refl _) _).alloc (by simp) _
  have hI0 : Ints .i64 ((w.alloc (.cells #[.int .i64 1] 3)).alloc (.cells #[.int .i64 (-1)] 52)) (some ⟨w.heap.size, 0, none⟩) [1] := ((Blk.new w 3 #[.int .i64 1]).alloc _).ints (zs := [1])
  have hI1 : Ints .i64 ((w.alloc (.cells #[.int .i64 1] 3)).alloc (.cells #[.int .i64 (-1)] 52)) (some ⟨w.heap.size + 1, 0, none⟩) [-1] := by
    have := (Blk.new (w.alloc (.cells #[.int .i64 1] 3)) 52 #[.int .i64 (-1)]).ints (zs := [-1])
    rwa [World.size_alloc] at this
  have kc := fun (w : World) (C : Array Value) (n c : Nat) => Lib.run_convert_bytes_const (P := Try.prog) w 30 5 C n c Try.underlying30 Try.underlying5
  have HI0 := Lib.hid hI0
  have HI1 := Lib.hid hI1
  have Hkc := Lib.hid kc
  clear hI0 hI1 kc
  go_enter Try.func8, Try.ntmps8
  go_wp2_with fail
  refine (tensor_of (some ⟨w.heap.size, 0, none⟩) (some ⟨w.heap.size + 1, 0, none⟩) 1 1 t1 _ (by decide) (by decide) ⟨HI0.out, HI1.out⟩).mono ?_
  rintro e w1 ⟨hcase, h1⟩
  have hb1 := hb0.trans (h1.mono hb0.size)
  clear HI0 HI1 hb0
  rcases hcase with ⟨hr, _⟩ | ⟨_, v, rfl, g, h, rfl, hg, hh, hG, hH⟩
  · exact absurd hr (by decide)
  clear h1 hg hh
  obtain ⟨hS2, hb12, hk2⟩ := awake_state w1 g h hG hH
  have hb2 := hb1.trans (hb12.mono hb1.size)
  have HS2 := Lib.hid hS2
  have Hk2 := Lib.hid hk2
  clear hS2 hk2
  clear hG hH hb1 hb12
  go_wp2_with fail
  generalize (((((w1.alloc (.cells #[.slice (some ⟨g, 0, none⟩) t1.s.length t1.s.length, .slice (some ⟨h, 0, none⟩) t1.c.length t1.c.length] 48)).alloc (.cells #[.slice (some ⟨g, 0, none⟩) t1.s.length t1.s.length, .slice (some ⟨h, 0, none⟩) t1.c.length t1.c.length] 48)).alloc (.cells #[.slice (some ⟨g, 0, none⟩) t1.s.length t1.s.length, .slice (some ⟨h, 0, none⟩) t1.c.length t1.c.length] 48)).alloc (.cells #[.int .i64 0, .int .i64 0, .int .i64 7, .int .i64 0, .int .i64 0, .int .i64 0] 54)).alloc (.cells #[.slice (some ⟨w1.heap.size + 1, 0, none⟩) 1 1, .slice (some ⟨w1.heap.size + 1 + 1, 0, none⟩) 1 1, .slice (some ⟨w1.heap.size + 1 + 1 + 1, 0, none⟩) 1 1] 27)) = w2 at *
  generalize w1.heap.size = q at *
  refine (keep_encode (some ⟨q + 1, 0, none⟩) (some ⟨q + 1 + 1, 0, none⟩) (some ⟨q + 1 + 1 + 1, 0, none⟩) 1 1 1 s1 _ (by decide) (by decide) (by decide) HS2.out).mono ?_
  rintro e w3 ⟨hcase, h3⟩
  rcases hcase with ⟨he, _⟩ | ⟨_, A3, c3, rfl, hI3, hc3⟩
  · exact absurd (Kq.okS_err s1_ok) he
  have hS3 := HS2.out.below h3 (Nat.le_refl _)
  have hk3 := Hk2.out.below h3 Hk2.out.lt
  have hb3 := hb2.trans (h3.mono hb2.size)
  have hl3 : (Kp.enc s1).length ≤ 1000 := by decide
  have HI3 := Lib.hid hI3
  have HS3 := Lib.hid hS3
  have Hk3 := Lib.hid hk3
  clear hI3 hS3 hk3
  clear h3 hb2 HS2 Hk2
  go_wp2_with fail
  refine (keep_decode A3 c3 (Kp.enc s1) _ HI3.out hc3 (by omega) (fun x hx => by rcases List.mem_append.1 hx with h | h; exact Kp.body_byte _ x h; exact Fp.big_byte _ _ x h)).mono ?_
  rintro e w4 ⟨hcase, h4⟩
  rw [Kq.decode_enc s1_ok] at hcase
  rcases hcase with ⟨he, _⟩ | ⟨_, P4, V4, M4, d1, d2, d3, rfl, hS4⟩
  · exact absurd rfl he
  have hS5 := hS4.below ((Below.refl _ w4).alloc (Nat.le_refl _) (.cells #[.slice P4 1 d1, .slice V4 1 d2, .slice M4 1 d3] 27)) (Nat.le_refl _)
  have h45 : Below w4.heap.size w4 (w4.alloc (.cells #[.slice P4 1 d1, .slice V4 1 d2, .slice M4 1 d3] 27)) := (Below.refl _ w4).alloc (Nat.le_refl _) _
  have h35 := h4.trans (h45.mono h4.size)
  have hr5 := Blk.new w4 27 #[.slice P4 1 d1, .slice V4 1 d2, .slice M4 1 d3]
  have hI5 := HI3.out.below h35 (Nat.le_refl _)
  have hT5 := HS3.out.below h35 (Nat.le_refl _)
  have hk5 := Hk3.out.below h35 Hk3.out.lt
  have hb5 := hb3.trans (h35.mono hb3.size)
  have HS5 := Lib.hid hS5
  have Hr5 := Lib.hid hr5
  have HI5 := Lib.hid hI5
  have HT5 := Lib.hid hT5
  have Hk5 := Lib.hid hk5
  clear hS5 hr5 hI5 hT5 hk5
  clear h4 hS4 h45 h35 HI3 HS3 Hk3 hb3
  go_wp2_with fail
  have hq5 : w4.heap.size + 1 = (w4.alloc (.cells #[.slice P4 1 d1, .slice V4 1 d2, .slice M4 1 d3] 27)).heap.size := by simp
  show Calls Try.prog 9 _ (w4.alloc (.cells #[.slice P4 1 d1, .slice V4 1 d2, .slice M4 1 d3] 27)) _
  generalize w4.alloc (.cells #[.slice P4 1 d1, .slice V4 1 d2, .slice M4 1 d3] 27) = w5 at *
  generalize w4.heap.size = r at *
  refine (keep_encode none none none 0 0 0 s0 _ (by decide) (by decide) (by decide) ⟨fun j hj => absurd hj (by simp [s0]), fun j hj => absurd hj (by simp [s0]), fun j hj => absurd hj (by simp [s0])⟩).mono ?_
  rintro e w6 ⟨hcase, h6⟩
  rcases hcase with ⟨he, _⟩ | ⟨_, A6, c6, rfl, hI6, hc6⟩
  · exact absurd (Kq.okS_err s0_ok) he
  have hS6 := HS5.out.below h6 (Nat.le_refl _)
  have hr6 := Hr5.out.below h6 Hr5.out.lt
  have hT6 := HT5.out.below h6 (Nat.le_refl _)
  have hk6 := Hk5.out.below h6 Hk5.out.lt
  have hb6 := hb5.trans (h6.mono hb5.size)
  clear h6 HS5 Hr5 HT5 Hk5 HI5 hb5 hq5
  have h67 : Below w6.heap.size w6 (w6.alloc (.cells #[.int .u8 65, .int .u8 84, .int .u8 72, .int .u8 83] 5 (4, 5))) := (Below.refl _ w6).alloc (Nat.le_refl _) _
  have hN7 : Ints .u8 (w6.alloc (.cells #[.int .u8 65, .int .u8 84, .int .u8 72, .int .u8 83] 5 (4, 5))) (some ⟨w6.heap.size, 0, none⟩) [65, 84, 72, 83] := Ints.of_row fun j hj => by
    rw [Nat.zero_add, cell_of_row _ _ j _ _ _ (heap_alloc_new w6 _)]
    match j, hj with
    | 0, _ => rfl
    | 1, _ => rfl
    | 2, _ => rfl
    | 3, _ => rfl
  have hS7 := hS6.below h67 (Nat.le_refl _)
  have hr7 := hr6.below h67 hr6.lt
  have hT7 := hT6.below h67 (Nat.le_refl _)
  have hk7 := hk6.below h67 hk6.lt
  have hI7 := hI6.below h67 (Nat.le_refl _)
  have hb7 := hb6.trans (h67.mono hb6.size)
  have kc := Hkc.out w6 #[.int .u8 65, .int .u8 84, .int .u8 72, .int .u8 83] 4 4
  have HS7 := Lib.hid hS7
  have Hr7 := Lib.hid hr7
  have HT7 := Lib.hid hT7
  have Hk7 := Lib.hid hk7
  have HI7 := Lib.hid hI7
  have HN7 := Lib.hid hN7
  clear hS7 hr7 hT7 hk7 hI7 hN7
  clear hS6 hr6 hT6 hk6 hI6 hb6 h67 Hkc
  go_wp2_with fail
  clear kc
  generalize w6.alloc (.cells #[.int .u8 65, .int .u8 84, .int .u8 72, .int .u8 83] 5 (4, 5)) = w7 at *
  refine (keep_decode (some ⟨w6.heap.size, 0, none⟩) 4 [65, 84, 72, 83] _ HN7.out (by decide) (by decide) (by decide)).mono ?_
  rintro e w8 ⟨hcase, h8⟩
  rw [show Kr.decode [65, 84, 72, 83] = (16, Kr.none_) from rfl] at hcase
  rcases hcase with ⟨_, rfl⟩ | ⟨he, _⟩
  case inr => exact absurd he (by decide)
  have h89 : Below w8.heap.size w8 (w8.alloc (.cells #[.slice none 0 0, .slice none 0 0, .slice none 0 0] 27)) := (Below.refl _ w8).alloc (Nat.le_refl _) _
  have h79 := h8.trans (h89.mono h8.size)
  have hS9 := HS7.out.below h79 (Nat.le_refl _)
  have hr9 := Hr7.out.below h79 Hr7.out.lt
  have hT9 := HT7.out.below h79 (Nat.le_refl _)
  have hk9 := Hk7.out.below h79 Hk7.out.lt
  have hI9 := HI7.out.below h79 (Nat.le_refl _)
  have hb9 := hb7.trans (h79.mono hb7.size)
  clear h8 h89 h79 HS7 Hr7 HT7 Hk7 HI7 HN7 hb7
  have HS9 := Lib.hid hS9
  have Hr9 := Lib.hid hr9
  have HT9 := Lib.hid hT9
  have Hk9 := Lib.hid hk9
  have HI9 := Lib.hid hI9
  clear hS9 hr9 hT9 hk9 hI9
  have hkeep : ∀ W, Below (w8.alloc (.cells #[.slice none 0 0, .slice none 0 0, .slice none 0 0] 27)).heap.size (w8.alloc (.cells #[.slice none 0 0, .slice none 0 0, .slice none 0 0] 27)) W → W.cell? ⟨q + 1 + 1 + 1 + 1, 0, none⟩ = some (.slice (some ⟨q + 1, 0, none⟩) 1 1) ∧ W.cell? ⟨q + 1 + 1 + 1 + 1, 1, none⟩ = some (.slice (some ⟨q + 1 + 1, 0, none⟩) 1 1) ∧ W.cell? ⟨q + 1 + 1 + 1 + 1, 2, none⟩ = some (.slice (some ⟨q + 1 + 1 + 1, 0, none⟩) 1 1) ∧ W.cell? ⟨r, 0, none⟩ = some (.slice P4 1 d1) ∧ W.cell? ⟨r, 1, none⟩ = some (.slice V4 1 d2) ∧ W.cell? ⟨r, 2, none⟩ = some (.slice M4 1 d3) ∧ (convert 30 9 (.slice A6 (Kp.enc s0).length c6)).run Try.prog W = .ok (.string (strOfNums (Kp.enc s0))) W := fun W hW =>
    have a := Hk9.out.below hW Hk9.out.lt
    have b := Hr9.out.below hW Hr9.out.lt
    ⟨a.cell 0, a.cell 1, a.cell 2, b.cell 0, b.cell 1, b.cell 2, run_string_of c6 30 5 9 Try.underlying30 Try.underlying5 Try.underlying9 (HI9.out.below hW (Nat.le_refl _))⟩
  obtain ⟨a0, a1, a2, a3, a4, a5, a6⟩ := hkeep _ ((Below.refl _ _).drew)
  have Hkeep := Lib.hid hkeep
  clear hkeep
  go_wp2_with fail
  generalize w8.alloc (.cells #[.slice none 0 0, .slice none 0 0, .slice none 0 0] 27) = w9 at *
  have hsE : ∀ W, Below w9.heap.size w9 W → Calls Try.prog 14 #[.agg #[.slice P4 1 d1, .slice V4 1 d2, .slice M4 1 d3], .agg #[.slice (some ⟨q + 1, 0, none⟩) 1 1, .slice (some ⟨q + 1 + 1, 0, none⟩) 1 1, .slice (some ⟨q + 1 + 1 + 1, 0, none⟩) 1 1]] W fun e w' => e = .returned (.bool true) ∧ Below W.heap.size W w' := fun W hW => by
    have := saved_equal P4 V4 M4 (some ⟨q + 1, 0, none⟩) (some ⟨q + 1 + 1, 0, none⟩) (some ⟨q + 1 + 1 + 1, 0, none⟩) d1 d2 d3 1 1 1 s1 s1 W s1_small s1_small (HS9.out.below hW (Nat.le_refl _)) (HT9.out.below hW (Nat.le_refl _))
    rwa [(Sav.eq_iff s1 s1).2 rfl] at this
  have hsZ : ∀ W, Below w9.heap.size w9 W → Calls Try.prog 11 #[.agg #[.slice (some ⟨q + 1, 0, none⟩) 1 1, .slice (some ⟨q + 1 + 1, 0, none⟩) 1 1, .slice (some ⟨q + 1 + 1 + 1, 0, none⟩) 1 1]] W fun e w' => e = .returned (.int .i64 (Kp.enc s1).length) ∧ Below W.heap.size W w' := fun W hW => by
    have := keep_size (some ⟨q + 1, 0, none⟩) (some ⟨q + 1 + 1, 0, none⟩) (some ⟨q + 1 + 1 + 1, 0, none⟩) 1 1 1 s1 W (by decide) (by decide) (by decide) (HT9.out.below hW (Nat.le_refl _))
    rwa [show Kp.size s1 = (Kp.enc s1).length by simp [Kp.size, Kq.okS_err s1_ok]] at this
  have hsS : ∀ W, Calls Try.prog 16 #[.string ⟨#[65, 84, 72, 83]⟩] W fun e w' => e = .returned (.int .u64 (Fp.sum [65, 84, 72, 83])) ∧ W = w' := fun W => ref_sum ⟨#[65, 84, 72, 83]⟩ W (by decide)
  have hsB : ∀ W, Calls Try.prog 15 #[.int .u64 (Fp.sum [65, 84, 72, 83]), .int .i64 4] W fun e w' => e = .returned (.string (strOfNums (Fp.big (Fp.sum [65, 84, 72, 83]) 4))) ∧ Below W.heap.size W w' := fun W => ref_big (Fp.sum [65, 84, 72, 83]) 4 W (by decide) (by decide) (by decide)
  have hse : strOfNums (Kp.enc s0) = (⟨#[65, 84, 72, 83, 0, 0, 0, 0]⟩ : ByteArray) ++ strOfNums (Fp.big (Fp.sum [65, 84, 72, 83]) 4) := by
    have e1 : Kp.body s0 = [65, 84, 72, 83, 0, 0, 0, 0] := by decide
    have e2 : strOfNums [65, 84, 72, 83, 0, 0, 0, 0] = (⟨#[65, 84, 72, 83, 0, 0, 0, 0]⟩ : ByteArray) := by decide +kernel
    have e3 : Fp.sum [65, 84, 72, 83, 0, 0, 0, 0] = Fp.sum [65, 84, 72, 83] := by decide
    rw [Kp.enc, e1, e3, strOfNums_append, e2]
  have hsz : (strOfNums (Fp.big (Fp.sum [65, 84, 72, 83]) 4)).size ≤ 4 := str_size_le (by rw [Fp.big_length]; omega)
  have HsE := Lib.hid hsE
  have HsZ := Lib.hid hsZ
  have HsS := Lib.hid hsS
  have HsB := Lib.hid hsB
  clear hsE hsZ hsS hsB
  have hbd : Below w9.heap.size w9 w9.drew := (Below.refl _ _).drew
  generalize Fp.sum [65, 84, 72, 83] = sm at *
  generalize strOfNums (Fp.big sm 4) = sb at *
  generalize strOfNums (Kp.enc s0) = se at *
  have hcs : ¬ 9223372036854775807 < 8 + sb.size := by omega
  have heq : (se.toList == ((⟨#[65, 84, 72, 83, 0, 0, 0, 0]⟩ : ByteArray) ++ sb).toList) = true := by rw [hse]; simp
  clear hse
  go_region_held3 (fun W => W.cell? ⟨q + 1 + 1 + 1 + 1, 0, none⟩ = some (.slice (some ⟨q + 1, 0, none⟩) 1 1) ∧ W.cell? ⟨q + 1 + 1 + 1 + 1, 1, none⟩ = some (.slice (some ⟨q + 1 + 1, 0, none⟩) 1 1) ∧ W.cell? ⟨q + 1 + 1 + 1 + 1, 2, none⟩ = some (.slice (some ⟨q + 1 + 1 + 1, 0, none⟩) 1 1) ∧ W.cell? ⟨r, 0, none⟩ = some (.slice P4 1 d1) ∧ W.cell? ⟨r, 1, none⟩ = some (.slice V4 1 d2) ∧ W.cell? ⟨r, 2, none⟩ = some (.slice M4 1 d3) ∧ (convert 30 9 (.slice A6 (Kp.enc s0).length c6)).run Try.prog W = .ok (.string se) W) (first | exact Hkeep.out _ hbc | exact Hkeep.out _ hbb | exact Hkeep.out _ hba | exact Hkeep.out _ hbd)
    (first
      | (go_at_call 14; refine (HsE.out _ hbd).mono ?_; rintro e wa ⟨rfl, ha⟩; have hba := hbd.trans (ha.mono hbd.size))
      | (go_at_call 16; refine (HsS.out _).mono ?_; rintro e wz ⟨rfl, rfl⟩)
      | (go_at_call 15; refine (HsB.out _).mono ?_; rintro e wb ⟨rfl, hb⟩; have hbb := hba.trans (hb.mono hba.size))
      | (go_at_call 11; refine (HsZ.out _ hbb).mono ?_; rintro e wc ⟨rfl, hc⟩; have hbc := hbb.trans (hc.mono hbb.size)))
  have hbf := hb9.trans (hbc.mono hb9.size)
  clear a0 a1 a2 a3 a4 a5 a6
  go_wp2_with fail
  go_ret
  exact ⟨rfl, hbf⟩
end Go.Proofs.Ytjgagbhbgehmpaa
