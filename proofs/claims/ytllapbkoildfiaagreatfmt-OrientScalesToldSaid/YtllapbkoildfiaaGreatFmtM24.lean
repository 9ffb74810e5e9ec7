/- Walks of package eft: num, finite, just, sum · orient: Minus, Times, gap · round.open · round: number.stuck, where nothing is left. -/
import Derived.Test.YtllapbkoildfiaaGreatFmtM23
import Derived.Test.YtllapbkoildfiaaGreatFmtM21
set_option linter.all false
set_option exponentiation.threshold 100000
namespace Go.Proofs.YtllapbkoildfiaaGreatFmt
section
open Go.RowKit
theorem fv_bound {n : Nat} (h : Fin64 n) : (fv n).natAbs < 2 ^ 2098 := by
  rw [fv_abs]
  have : n % 9223372036854775808 ≤ 2045 * 4503599627370496 + 9007199254740991 := by have := h.2; omega
  refine Nat.lt_of_le_of_lt (mg_le this) ?_
  rw [mg_at (.inr (by omega)), show 2098 = 53 + 2045 by omega, Nat.pow_add]
  exact Nat.mul_lt_mul_of_pos_right (by omega) (Nat.two_pow_pos _)
theorem NumK.lift {w : World} {v : Value} {K : Nat} {U : Int} (h : NumK w v K U) (j : Nat) : NumK w v (K + j) (U * 2 ^ j) := by
  obtain ⟨M, E, h1, h2, h3⟩ := h
  refine ⟨M, E, h1, by omega, ?_⟩
  rw [h3, Int.mul_assoc, ← Int.pow_add]
  congr 2
  omega
set_option maxRecDepth 100000 in
set_option maxHeartbeats 1000000 in
theorem num_any (n : Nat) (w : World) (h : Fin64 n) (hT : Tab w) : Calls Tryz.prog 139 #[.float .f64 n] w (KRes w 1074 (fv n)) := by
  have t0 := (Turn.refl (fun _ => False) w).alloc (.cells #[.bool false, .slice none 0 0, .int .i64 0] 53)
  have hb := Bx.made 53 w
  have hO := bOf_any n (w.alloc (.cells #[.bool false, .slice none 0 0, .int .i64 0] 53)) h.nn
  have hF := Of_any n (w.alloc (.cells #[.bool false, .slice none 0 0, .int .i64 0] 53)) h (hT.still t0)
  generalize fv n = z at *
  replace hb := Lib.hid hb
  replace t0 := Lib.hid t0
  clear h hT
  go_enter Tryz.func139, Tryz.ntmps139
  go_wp2_with (first
    | (go_at_call 59; ((with_reducible refine hO.mono ?_)); rintro en wa ⟨rfl, rfl⟩)
    | (go_at_call 67; ((with_reducible refine hF.mono ?_)); rintro en wb ⟨v, rfl, g1, g2⟩
       obtain ⟨s, a, k, c, E, rfl⟩ := g1.form
       have ta := (Turn.refl (fun _ => False) wb).alloc (.cells #[.bool s, .slice a k c, .int .i64 E] 53)
       have hq := hb.out.still (g2.trans' ta)
       obtain ⟨q0, q1, q2, f0, f1, f2, -⟩ := hq
       have hq := Lib.hid (hb.out.still (g2.trans' ta))
       have ht := Lib.hid ((t0.out.trans' g2).trans' ta)
       have g3 := Lib.hid (g1.still ta)
       clear g1 g2 ta))
  generalize (wb.alloc (.cells #[.bool s, .slice a k c, .int .i64 E] 53)) = w5 at *
  obtain ⟨r0, r1, r2⟩ := set3 (.bool s) (.slice a k c) (.int .i64 E) q0 q1 q2
  have hz := put3 w5 w.heap.size (.bool s) (.slice a k c) (.int .i64 E)
  generalize ((w5.setCell ⟨w.heap.size, 0, none⟩ (.bool s)).setCell ⟨w.heap.size, 1, none⟩ (.slice a k c)).setCell ⟨w.heap.size, 2, none⟩ (.int .i64 E) = wz at *
  refine bodyPost_ret (v := .agg #[.bool s, .slice a k c, .int .i64 E]) (by simp [results, Tryz.results139, go_sem, r0, r1, r2]) rfl ?_
  exact g3.out.put ht.out hq.out (Nat.le_refl _) hz
theorem finite_all (b n c : Nat) (f : Nat → Nat) (w : World) (hn : n ≤ 1000) (hf : ∀ j, j < n → w.cell? ⟨b, j, none⟩ = some (.float .f64 (f j)) ∧ Fin64 (f j)) :
    Calls Tryz.prog 138 #[.slice (some ⟨b, 0, none⟩) n c] w fun e w' => e = .returned (.bool true) ∧ w = w' := by
  replace hf := Lib.hid hf
  go_enter Tryz.func138, Tryz.ntmps138
  go_wp2
  go_loop [7] (fun vi => ∃ k : Nat, k ≤ n ∧ vi = .int .i64 k) (fun vi => n - (intOf vi).toNat)
  case atStart => exact ⟨0, Nat.zero_le _, rfl⟩
  case round =>
    obtain ⟨k, hk, rfl⟩ := hrel
    by_cases hkn : k < n
    · obtain ⟨c0, hF⟩ := hf.out k hkn
      have o : (FloatKind.f64.format.order (f k) (f k) != some .eq) = false := by rw [order_self hF.nn]; rfl
      have hI := IsInf_0 (f k) w hF.nn
      rw [decide_eq_false (by have := hF.2; omega)] at hI
      have hn1 : (0 : Int) ≤ (k : Int) := by omega
      have hn2 : (k : Int) < n := by omega
      clear hF
      go_wp2_with (go_at_call 115; ((with_reducible refine hI.mono ?_)); rintro en wa ⟨rfl, rfl⟩)
      all_goals go_round
      case rel => exact ⟨k + 1, by omega, by go_num⟩
      case measure => simp [intOf]; omega
    · obtain rfl : k = n := by omega
      go_wp2
      go_ret
      exact ⟨rfl, rfl⟩
end
section
open Go.RowKit
structure DB (w : World) (b : Nat) (x y z : Value) : Prop where
  c0 : w.cell? ⟨b, 0, none⟩ = some x
  c1 : w.cell? ⟨b, 1, none⟩ = some y
  c2 : w.cell? ⟨b, 2, none⟩ = some z
theorem DB.lt {w : World} {b : Nat} {x y z : Value} (h : DB w b x y z) : b < w.heap.size := World.block_lt_of_cell? w _ h.c0
theorem DB.still {w w' : World} {b : Nat} {x y z : Value} (h : DB w b x y z) (t : Turn (fun _ => False) w w') : DB w' b x y z :=
  ⟨(t.cell (p := ⟨b, 0, none⟩) h.lt id).trans h.c0, (t.cell (p := ⟨b, 1, none⟩) h.lt id).trans h.c1, (t.cell (p := ⟨b, 2, none⟩) h.lt id).trans h.c2⟩
theorem DB.made (t : TypeId) (w : World) (x y z : Value) : DB (w.alloc (.cells #[x, y, z] t)) w.heap.size x y z := ⟨cell_made _ _ _ 0, cell_made _ _ _ 1, cell_made _ _ _ 2⟩
set_option maxRecDepth 100000 in
set_option maxHeartbeats 4000000 in
theorem oMinus_gen (a0 a1 a2 b0 b1 b2 : Value) (K : Nat) (U : Int) (w : World) (hC : ∀ W, Turn (fun _ => False) w W → Calls Tryz.prog 65 #[.agg #[a0, a1, a2], .agg #[b0, b1, b2]] W (KRes2 W K U)) :
    Calls Tryz.prog 41 #[.agg #[a0, a1, a2], .agg #[b0, b1, b2]] w (KRes w K U) := by
  have ga := DB.made 53 w a0 a1 a2
  have t1 := (Turn.refl (fun _ => False) w).alloc (.cells #[a0, a1, a2] 53)
  have s1 := size_alloc w (.cells #[a0, a1, a2] 53)
  generalize hw1 : w.alloc (.cells #[a0, a1, a2] 53) = w1 at ga t1 s1
  have gb := DB.made 53 w1 b0 b1 b2
  have t2 := (Turn.refl (fun _ => False) w1).alloc (.cells #[b0, b1, b2] 53)
  have s2 := size_alloc w1 (.cells #[b0, b1, b2] 53)
  generalize hw2 : w1.alloc (.cells #[b0, b1, b2] 53) = w2 at gb t2 s2
  have k3 := Bx.made 53 w2
  have t3 := (Turn.refl (fun _ => False) w2).alloc (.cells #[.bool false, .slice none 0 0, .int .i64 0] 53)
  rw [s1] at gb s2
  rw [s2] at k3
  have tt := (t1.trans' t2).trans' t3
  have ga2 := (ga.still t2).still t3
  have gb2 := gb.still t3
  have e0 := ga2.c0
  have e1 := ga2.c1
  have e2 := ga2.c2
  have f0 := gb2.c0
  have f1 := gb2.c1
  have f2 := gb2.c2
  rw [← hw2, ← hw1] at k3 tt e0 e1 e2 f0 f1 f2
  have hCC := hC _ tt
  replace k3 := Lib.hid k3
  replace tt := Lib.hid tt
  clear ga t1 s1 gb t2 s2 t3 hw1 hw2 hC ga2 gb2
  go_enter Tryz.func41, Tryz.ntmps41
  go_wp2_with (go_at_call 65; ((with_reducible refine hCC.mono ?_)); rintro en wa ⟨v, rfl, hn, h⟩
               obtain ⟨s, a, n, c, E, rfl⟩ := hn.form
               have t5 := (Turn.refl (fun _ => False) wa).alloc (.cells #[.bool s, .slice a n c, .int .i64 E] 53)
               have hn2 := hn.still t5
               have k6 := (k3.out.still h).still t5
               have m := fun i => cell_made #[.bool s, .slice a n c, .int .i64 E] 53 wa i
               have m0 := m 0
               have m1 := m 1
               have m2 := m 2
               have g0 := k6.c0
               have g1 := k6.c1
               have g2 := k6.c2
               have g3 := k6.f0
               have g4 := k6.f1
               have g5 := k6.f2
               obtain ⟨q0, q1, q2⟩ := set3 (.bool s) (.slice a n c) (.int .i64 E) g0 g1 g2
               have hfin := Lib.hid (hn2.put ((tt.out.trans' h).trans' t5) k6 (show w.heap.size ≤ w.heap.size + 1 + 1 by omega) (put3 _ _ (.bool s) (.slice a n c) (.int .i64 E)))
               clear h k3 tt hn hn2 t5 k6 m hCC e0 e1 e2 f0 f1 f2)
  refine bodyPost_ret (v := .agg #[.bool s, .slice a n c, .int .i64 E]) (by simp [results, Tryz.results41, go_sem, q0, q1, q2]) rfl ?_
  exact hfin.out
set_option maxRecDepth 100000 in
set_option maxHeartbeats 4000000 in
theorem oTimes_gen (a0 a1 a2 b0 b1 b2 : Value) (K : Nat) (U : Int) (w : World) (hC : ∀ W, Turn (fun _ => False) w W → Calls Tryz.prog 66 #[.agg #[a0, a1, a2], .agg #[b0, b1, b2]] W (KRes2 W K U)) :
    Calls Tryz.prog 42 #[.agg #[a0, a1, a2], .agg #[b0, b1, b2]] w (KRes w K U) := by
  have ga := DB.made 53 w a0 a1 a2
  have t1 := (Turn.refl (fun _ => False) w).alloc (.cells #[a0, a1, a2] 53)
  have s1 := size_alloc w (.cells #[a0, a1, a2] 53)
  generalize hw1 : w.alloc (.cells #[a0, a1, a2] 53) = w1 at ga t1 s1
  have gb := DB.made 53 w1 b0 b1 b2
  have t2 := (Turn.refl (fun _ => False) w1).alloc (.cells #[b0, b1, b2] 53)
  have s2 := size_alloc w1 (.cells #[b0, b1, b2] 53)
  generalize hw2 : w1.alloc (.cells #[b0, b1, b2] 53) = w2 at gb t2 s2
  have k3 := Bx.made 53 w2
  have t3 := (Turn.refl (fun _ => False) w2).alloc (.cells #[.bool false, .slice none 0 0, .int .i64 0] 53)
  rw [s1] at gb s2
  rw [s2] at k3
  have tt := (t1.trans' t2).trans' t3
  have ga2 := (ga.still t2).still t3
  have gb2 := gb.still t3
  have e0 := ga2.c0
  have e1 := ga2.c1
  have e2 := ga2.c2
  have f0 := gb2.c0
  have f1 := gb2.c1
  have f2 := gb2.c2
  rw [← hw2, ← hw1] at k3 tt e0 e1 e2 f0 f1 f2
  have hCC := hC _ tt
  replace k3 := Lib.hid k3
  replace tt := Lib.hid tt
  clear ga t1 s1 gb t2 s2 t3 hw1 hw2 hC ga2 gb2
  go_enter Tryz.func42, Tryz.ntmps42
  go_wp2_with (go_at_call 66; ((with_reducible refine hCC.mono ?_)); rintro en wa ⟨v, rfl, hn, h⟩
               obtain ⟨s, a, n, c, E, rfl⟩ := hn.form
               have t5 := (Turn.refl (fun _ => False) wa).alloc (.cells #[.bool s, .slice a n c, .int .i64 E] 53)
               have hn2 := hn.still t5
               have k6 := (k3.out.still h).still t5
               have m := fun i => cell_made #[.bool s, .slice a n c, .int .i64 E] 53 wa i
               have m0 := m 0
               have m1 := m 1
               have m2 := m 2
               have g0 := k6.c0
               have g1 := k6.c1
               have g2 := k6.c2
               have g3 := k6.f0
               have g4 := k6.f1
               have g5 := k6.f2
               obtain ⟨q0, q1, q2⟩ := set3 (.bool s) (.slice a n c) (.int .i64 E) g0 g1 g2
               have hfin := Lib.hid (hn2.put ((tt.out.trans' h).trans' t5) k6 (show w.heap.size ≤ w.heap.size + 1 + 1 by omega) (put3 _ _ (.bool s) (.slice a n c) (.int .i64 E)))
               clear h k3 tt hn hn2 t5 k6 m hCC e0 e1 e2 f0 f1 f2)
  refine bodyPost_ret (v := .agg #[.bool s, .slice a n c, .int .i64 E]) (by simp [results, Tryz.results42, go_sem, q0, q1, q2]) rfl ?_
  exact hfin.out
theorem oMinus_any (va vb : Value) (K : Nat) (A B : Int) (w : World) (hK : K ≤ 10000) (ha : NumK w va K A) (hb : NumK w vb K B) (hA : A.natAbs < 2 ^ 39000) (hB : B.natAbs < 2 ^ 39000) (hT : Tab w) :
    Calls Tryz.prog 41 #[va, vb] w (KRes w K (A - B)) := by
  obtain ⟨s1, l1, n1, c1, e1, rfl⟩ := ha.form
  obtain ⟨s2, l2, n2, c2, e2, rfl⟩ := hb.form
  exact oMinus_gen _ _ _ _ _ _ K _ w fun W t => dSub_any _ _ K A B W hK (ha.still t) (hb.still t) hA hB (hT.still t)
theorem oTimes_any (va vb : Value) (K : Nat) (A B : Int) (w : World) (hK : K ≤ 5000) (ha : NumK w va K A) (hb : NumK w vb K B) (hA : A.natAbs < 2 ^ 2400) (hB : B.natAbs < 2 ^ 30000) (hT : Tab w) (hk : w.cell? ⟨5, 0, none⟩ = some (.int .i64 40)) :
    Calls Tryz.prog 42 #[va, vb] w (KRes w (K + K) (A * B)) := by
  obtain ⟨s1, l1, n1, c1, e1, rfl⟩ := ha.form
  obtain ⟨s2, l2, n2, c2, e2, rfl⟩ := hb.form
  exact oTimes_gen _ _ _ _ _ _ (K + K) _ w fun W t => dMul_any _ _ K A B W hK (ha.still t) (hb.still t) hA hB (hT.still t) ((t.cell (p := ⟨5, 0, none⟩) (World.block_lt_of_cell? w _ hk) id).trans hk)
set_option maxRecDepth 100000 in
set_option maxHeartbeats 4000000 in
theorem oGap_gen (X Y : Int) (U V R : Int) (w : World) (h1 : ∀ W, Turn (fun _ => False) w W → Calls Tryz.prog 67 #[.int .i64 X] W (KRes2 W 1074 U)) (h2 : ∀ W, Turn (fun _ => False) w W → Calls Tryz.prog 67 #[.int .i64 Y] W (KRes2 W 1074 V))
    (h3 : ∀ va vb W, NumK W va 1074 U → NumK W vb 1074 V → Turn (fun _ => False) w W → Calls Tryz.prog 41 #[va, vb] W (KRes W 1074 R)) :
    Calls Tryz.prog 43 #[.int .i64 X, .int .i64 Y] w (KRes w 1074 R) := by
  have k1 := Bx.made 53 w
  have t1 := (Turn.refl (fun _ => False) w).alloc (.cells #[.bool false, .slice none 0 0, .int .i64 0] 53)
  have hC := h1 _ t1
  replace k1 := Lib.hid k1
  replace t1 := Lib.hid t1
  replace h2 := Lib.hid h2
  replace h3 := Lib.hid h3
  clear h1
  go_enter Tryz.func43, Tryz.ntmps43
  go_wp2_with (first
    | (go_at_call 67; ((with_reducible refine hC.mono ?_)); rintro en wa ⟨va, rfl, hn, h⟩
       obtain ⟨s, a, n, c, E, rfl⟩ := hn.form
       have t5 := (Turn.refl (fun _ => False) wa).alloc (.cells #[.bool s, .slice a n c, .int .i64 E] 53)
       have t2 := (t1.out.trans' h).trans' t5
       have k2 := (k1.out.still h).still t5
       have b2 := DB.made 53 wa (.bool s) (.slice a n c) (.int .i64 E)
       have hn2 := hn.still t5
       have hD := h2.out _ t2
       replace k2 := Lib.hid k2
       replace t2 := Lib.hid t2
       replace b2 := Lib.hid b2
       replace hn2 := Lib.hid hn2
       clear h t1 k1 h2 hC hn t5)
    | (go_at_call 67; ((with_reducible refine hD.mono ?_)); rintro en wb ⟨vb, rfl, hm, h⟩
       obtain ⟨s', a', n', c', E', rfl⟩ := hm.form
       have t6 := (Turn.refl (fun _ => False) wb).alloc (.cells #[.bool s', .slice a' n' c', .int .i64 E'] 53)
       have t3 := (t2.out.trans' h).trans' t6
       have k3 := Lib.hid ((k2.out.still h).still t6)
       have b3 := (b2.out.still h).still t6
       have c3 := DB.made 53 wb (.bool s') (.slice a' n' c') (.int .i64 E')
       have e0 := b3.c0
       have e1 := b3.c1
       have e2 := b3.c2
       have f0 := c3.c0
       have f1 := c3.c1
       have f2 := c3.c2
       have hF := h3.out _ _ _ ((hn2.out.still h).still t6) (hm.still t6) t3
       replace t3 := Lib.hid t3
       clear h t2 t6 k2 b2 b3 c3 hn2 hm h3 hD)
    | (go_at_call 41; ((with_reducible refine hF.mono ?_)); rintro en wc ⟨v, rfl, hn, h⟩
       obtain ⟨s, a, n, c, E, rfl⟩ := hn.form
       have k6 := k3.out.still h
       have g0 := k6.c0
       have g1 := k6.c1
       have g2 := k6.c2
       have g3 := k6.f0
       have g4 := k6.f1
       have g5 := k6.f2
       obtain ⟨q0, q1, q2⟩ := set3 (.bool s) (.slice a n c) (.int .i64 E) g0 g1 g2
       have hfin := Lib.hid (hn.put (t3.out.trans' h) k6 (show w.heap.size ≤ w.heap.size by omega) (put3 _ _ (.bool s) (.slice a n c) (.int .i64 E)))
       clear h k3 t3 hn k6 hF e0 e1 e2 f0 f1 f2))
  refine bodyPost_ret (v := .agg #[.bool s, .slice a n c, .int .i64 E]) (by simp [results, Tryz.results43, go_sem, q0, q1, q2]) rfl ?_
  exact hfin.out
theorem oGap_any (x y : Nat) (w : World) (hx : Fin64 x) (hy : Fin64 y) (hT : Tab w) : Calls Tryz.prog 43 #[.int .i64 (iw x), .int .i64 (iw y)] w (KRes w 1074 (fv x - fv y)) :=
  oGap_gen _ _ (fv x) (fv y) _ w (fun W t => Of_any x W hx (hT.still t)) (fun W t => Of_any y W hy (hT.still t)) fun va vb W a b t =>
    oMinus_any va vb 1074 _ _ W (by omega) a b (Nat.lt_of_lt_of_le (fv_bound hx) (Nat.pow_le_pow_right (by omega) (by omega))) (Nat.lt_of_lt_of_le (fv_bound hy) (Nat.pow_le_pow_right (by omega) (by omega))) (hT.still t)
end
section
open Go.RowKit
structure RX (w wx : World) (v0 v1 v2 : Value) : Prop where
  x0 : wx.cell? ⟨w.heap.size, 0, none⟩ = some v0
  x1 : wx.cell? ⟨w.heap.size, 1, none⟩ = some v1
  x2 : wx.cell? ⟨w.heap.size, 2, none⟩ = some v2
  r0 : wx.cell? ⟨w.heap.size + 1, 0, none⟩ = some (.pointer none)
  r1 : wx.cell? ⟨w.heap.size + 1, 1, none⟩ = some (.int .i64 0)
  r2 : wx.cell? ⟨w.heap.size + 1, 2, none⟩ = some (.bool false)
  f : ∀ i, wx.frozen? ⟨w.heap.size + 1, i, none⟩ = false
  turn : Turn (fun _ => False) w wx
  sz : w.heap.size + 1 < wx.heap.size
theorem RX.more {w wx wy : World} {v0 v1 v2 : Value} (h : RX w wx v0 v1 v2) {S : Nat → Prop} (t : Turn S wx wy) (hS : ∀ k, S k → w.heap.size + 1 < k) : RX w wy v0 v1 v2 := by
  have hl := h.sz
  have n0 : ¬ S w.heap.size := fun g => by have := hS _ g; omega
  have n1 : ¬ S (w.heap.size + 1) := fun g => by have := hS _ g; omega
  have l0 : w.heap.size < wx.heap.size := by omega
  exact ⟨(t.cell (p := ⟨w.heap.size, 0, none⟩) l0 n0).trans h.x0, (t.cell (p := ⟨w.heap.size, 1, none⟩) l0 n0).trans h.x1, (t.cell (p := ⟨w.heap.size, 2, none⟩) l0 n0).trans h.x2,
    (t.cell (p := ⟨w.heap.size + 1, 0, none⟩) hl n1).trans h.r0, (t.cell (p := ⟨w.heap.size + 1, 1, none⟩) hl n1).trans h.r1, (t.cell (p := ⟨w.heap.size + 1, 2, none⟩) hl n1).trans h.r2,
    fun i => (t.frozen (p := ⟨w.heap.size + 1, i, none⟩) hl n1).trans (h.f i), h.turn.trans t fun k hk g => by (have := hS k g; omega), Nat.lt_of_lt_of_le hl t.size⟩
theorem RX.still {w wx wy : World} {v0 v1 v2 : Value} (h : RX w wx v0 v1 v2) (t : Turn (fun _ => False) wx wy) : RX w wy v0 v1 v2 := h.more t fun _ g => g.elim
theorem RX.made (w : World) (v0 v1 v2 : Value) (ty : TypeId) : RX w ((w.alloc (.cells #[v0, v1, v2] ty)).alloc (.cells #[.pointer none, .int .i64 0, .bool false] 115)) v0 v1 v2 ∧
    ((w.alloc (.cells #[v0, v1, v2] ty)).alloc (.cells #[.pointer none, .int .i64 0, .bool false] 115)).heap.size = w.heap.size + 1 + 1 := by
  have c1 := fun i => cell_made #[v0, v1, v2] ty w i
  have s1 := size_alloc w (.cells #[v0, v1, v2] ty)
  have t1 := (Turn.refl (fun _ => False) w).alloc (.cells #[v0, v1, v2] ty)
  generalize w.alloc (.cells #[v0, v1, v2] ty) = w1 at *
  have c2 := fun i => cell_made #[.pointer none, .int .i64 0, .bool false] 115 w1 i
  have g2 := fun i => frozen_made #[.pointer none, .int .i64 0, .bool false] 115 w1 i
  have s2 := size_alloc w1 (.cells #[.pointer none, .int .i64 0, .bool false] 115)
  have t2 := (Turn.refl (fun _ => False) w1).alloc (.cells #[.pointer none, .int .i64 0, .bool false] 115)
  generalize w1.alloc (.cells #[.pointer none, .int .i64 0, .bool false] 115) = w2 at *
  rw [s1] at c2 g2 s2
  have l1 : w.heap.size < w1.heap.size := by omega
  exact ⟨⟨(t2.cell (p := ⟨w.heap.size, 0, none⟩) l1 id).trans (c1 0), (t2.cell (p := ⟨w.heap.size, 1, none⟩) l1 id).trans (c1 1), (t2.cell (p := ⟨w.heap.size, 2, none⟩) l1 id).trans (c1 2), c2 0, c2 1, c2 2, g2, t1.trans' t2, by omega⟩, s2⟩
def NbRes (w : World) (m e : Int) (en : Ending) (w' : World) : Prop := ∃ q oq, en = .returned (.agg #[.pointer (some ⟨q, 0, none⟩), .int .i64 e, .bool false]) ∧ It w' q oq m ∧ New w q oq ∧ Turn (fun _ => False) w w'
set_option maxRecDepth 100000 in
set_option maxHeartbeats 4000000 in
theorem ropen_any (s : Bool) (a : Option Addr) (n c : Nat) (E : Int) (d : Nat → Nat) (w : World) (hd : Ds w a n d) (hn : n ≤ 2000) :
    Calls Tryz.prog 105 #[.agg #[.bool s, .slice a n c, .int .i64 E]] w (NbRes w (if s then -((dv d n : Nat) : Int) else ((dv d n : Nat) : Int)) E) := by
  have hlt : ∀ i, i < n → d i < 1073741824 := by
    rcases hd with h | ⟨b, o, _, h2⟩
    · intro i hi; omega
    · exact fun i hi => (h2 i hi).2
  obtain ⟨F, hsz⟩ := RX.made w (.bool s) (.slice a n c) (.int .i64 E) 53
  have hd1 := hd.still F.turn
  generalize hv : (if s then -((dv d n : Nat) : Int) else ((dv d n : Nat) : Int)) = v
  replace hv := Lib.hid hv
  replace hlt := Lib.hid hlt
  replace hd := Lib.hid hd1
  clear hd1
  go_enter Tryz.func105, Tryz.ntmps105
  go_wp2_with fail
  generalize World.alloc (World.alloc w _) _ = w2 at F hsz hd ⊢
  have h0 : WRel w2 (w.heap.size + 1 + 1) d n 0 (w2.alloc (.cells #[.bool false, .slice none 0 0] 128)) := by
    refine ⟨⟨none, by rw [← hsz]; exact It.made w2, ?_⟩, (Turn.refl (fun _ => False) w2).alloc _⟩
    rintro k (rfl | ⟨c, e⟩)
    · omega
    · cases e
  replace h0 := Lib.hid h0
  replace F := Lib.hid F
  replace hsz := Lib.hid hsz
  generalize hpp : w.heap.size + 1 + 1 = p at *
  go_loopw [9] (fun vi wr => ∃ k : Nat, k ≤ n ∧ vi = .int .i64 k ∧ WRel w2 p d n k wr) (fun vi _ => n - (intOf vi).toNat)
  case atStart => exact ⟨0, Nat.zero_le _, rfl, h0.out⟩
  case round =>
    obtain ⟨k, hk, rfl, hrel⟩ := hrel
    by_cases hkn : k < n
    · have hkd := hlt.out (n - 1 - k) (by omega)
      have htl := top_lt hlt.out k (by omega)
      have htm : top d n k * 2 ^ 30 < 2 ^ (30 * k + 30) := by rw [Nat.pow_add]; exact Nat.mul_lt_mul_of_pos_right htl (by decide)
      obtain ⟨⟨o, hI, hN⟩, hT⟩ := hrel
      have x1 := (F.out.still hT).x1
      rcases hd.out with h | ⟨b, off, rfl, hdg⟩
      · omega
      have hda := hdg.turn hT id
      have hdb := Lib.hid (hdg.lt (by omega))
      have hbb : bl ((top d n k : Nat) : Int).natAbs ≤ 6000000 := by rw [Int.natAbs_natCast]; exact Nat.le_trans (bl_le htl) (by omega)
      have hA0 := Lsh_any p o _ p o _ 30 _ hI hI (.inl ⟨rfl, rfl⟩) hbb (by omega) (by omega)
      rw [show ((top d n k : Nat) : Int) * 2 ^ 30 = ((top d n k * 1073741824 : Nat) : Int) from by rw [Int.natCast_mul]; rfl] at hA0
      have hA : Calls Tryz.prog 124 #[.pointer (some ⟨p, 0, none⟩), .pointer (some ⟨p, 0, none⟩), .int .u64 30] wr _ := hA0
      clear hA0
      have hbm : bl (top d n k * 1073741824) ≤ 6000000 := Nat.le_trans (bl_le htm) (by omega)
      clear hdg hI
      have hn1 : (0 : Int) ≤ (n : Int) - 1 - (k : Int) := by omega
      have hn2 : (n : Int) - 1 - (k : Int) < n := by omega
      have hn3 : ((n : Int) - 1 - (k : Int)).toNat = n - 1 - k := by omega
      have hw1 : IntKind.i64.wrap ((n : Int) - 1) = (n : Int) - 1 := IntWalk.i64_in _ (by omega)
      have hw2 : IntKind.i64.wrap ((n : Int) - 1 - (k : Int)) = (n : Int) - 1 - (k : Int) := IntWalk.i64_in _ (by omega)
      replace hN := Lib.hid hN
      replace hT := Lib.hid hT
      replace hbm := Lib.hid hbm
      replace hda := Lib.hid hda
      replace hkd := Lib.hid hkd
      clear htl htm hbb
      go_wp2_with (first
        | (go_at_call 124
           ((with_reducible refine hA.mono ?_))
           rintro e wa hres
           obtain ⟨rfl, o2, hI2, hN2, hT2⟩ := hres.new hN.out hT.out
           have hd2 : wa.cell? ⟨b, off + (n - 1 - k), none⟩ = some (.int .i64 ((d (n - 1 - k) : Nat) : Int)) := by
             obtain ⟨_, _, _, _, ht⟩ := hres
             exact (ht.cell (p := ⟨b, off + (n - 1 - k), none⟩) (hda.out.lt (by omega)) (fun g => absurd (hN.out b g) (by have := hdb.out; omega))).trans (hda.out (n - 1 - k) (by omega)).1
           have x1 := (F.out.still hT2).x1
           have hB := NewInt_any ((d (n - 1 - k) : Nat) : Int) (by have := hkd.out; omega) wa
           clear hres hA)
        | (go_at_call 126
           ((with_reducible refine hB.mono ?_))
           rintro e wb ⟨p3, o3, rfl, hI3, hN3, hT3⟩
           have hC := Or_low p o2 (top d n k * 1073741824) p3 o3 (d (n - 1 - k)) wb (hI2.still hT3) hI3 hbm.out (by omega) hkd.out
           have hT4 := Lib.hid (hT2.trans hT3 (fun _ _ g => g))
           clear hB hI3 hI2 hT2)
        | (go_at_call 125
           ((with_reducible refine hC.mono ?_))
           rintro e wc hres
           obtain ⟨rfl, o4, hI4, hN4, hT5⟩ := hres.new hN2 hT4.out
           have hst : WRel w2 p d n (k + 1) wc := ⟨⟨o4, hI4, hN4⟩, hT5⟩
           replace hst := Lib.hid hst
           clear hC hI4 hN4 hT5))
      all_goals go_roundw
      case rel => exact ⟨k + 1, by omega, by go_num, hst.out⟩
      case measure => simp [intOf]; omega
    · obtain rfl : k = n := by omega
      obtain ⟨⟨o, hI, hN⟩, hT⟩ := hrel
      rw [top_all] at hI
      have x0 := (F.out.still hT).x0
      rcases s with _ | _
      · have hv1 : ((dv d k : Nat) : Int) = v := hv.out
        rw [hv1] at hI
        have G := F.out.still hT
        have x2 := G.x2
        have r0 := G.r0
        have r1 := G.r1
        have r2 := G.r2
        have f0 := G.f 0
        have f1 := G.f 1
        have f2 := G.f 2
        obtain ⟨q0, q1, q2⟩ := set3 (.pointer (some ⟨p, 0, none⟩)) (.int .i64 E) (.bool false) r0 r1 r2
        have hP := put3 wr (w.heap.size + 1) (.pointer (some ⟨p, 0, none⟩)) (.int .i64 E) (.bool false)
        have hfin : NbRes w v E (.returned (.agg #[.pointer (some ⟨p, 0, none⟩), .int .i64 E, .bool false])) (((wr.setCell ⟨w.heap.size + 1, 0, none⟩ (.pointer (some ⟨p, 0, none⟩))).setCell ⟨w.heap.size + 1, 1, none⟩ (.int .i64 E)).setCell ⟨w.heap.size + 1, 2, none⟩ (.bool false)) :=
          ⟨p, o, rfl, hI.turn hP fun k hk e => by have := hN k hk; have := hsz.out; omega, fun k hk => by have := hN k hk; have := hsz.out; omega, G.turn.trans hP fun k hk e => by omega⟩
        replace hfin := Lib.hid hfin
        clear hv1 hI hN hT G hP F hd hlt h0
        go_wp2_with fail
        refine bodyPost_ret (v := .agg #[.pointer (some ⟨p, 0, none⟩), .int .i64 E, .bool false]) (by simp [results, Tryz.results105, go_sem, q0, q1, q2]) rfl ?_
        exact hfin.out
      · have hv1 : -((dv d k : Nat) : Int) = v := hv.out
        have hA := Neg_same p o _ _ hI
        rw [hv1] at hA
        have G := F.out.still hT
        replace hI := Lib.hid hI
        replace hN := Lib.hid hN
        replace hT := Lib.hid hT
        replace G := Lib.hid G
        clear hv1 hI F hd hlt h0
        go_wp2_with (go_at_call 92; ((with_reducible refine hA.mono ?_)); rintro e wa ⟨rfl, hI2, hT2⟩
                     have G := G.out.more hT2 fun k hk => by have : k = p := hk; omega
                     have x2 := G.x2
                     have r0 := G.r0
                     have r1 := G.r1
                     have r2 := G.r2
                     have f0 := G.f 0
                     have f1 := G.f 1
                     have f2 := G.f 2
                     obtain ⟨q0, q1, q2⟩ := set3 (.pointer (some ⟨p, 0, none⟩)) (.int .i64 E) (.bool false) r0 r1 r2
                     have hP := put3 wa (w.heap.size + 1) (.pointer (some ⟨p, 0, none⟩)) (.int .i64 E) (.bool false)
                     have hfin : NbRes w v E (.returned (.agg #[.pointer (some ⟨p, 0, none⟩), .int .i64 E, .bool false])) (((wa.setCell ⟨w.heap.size + 1, 0, none⟩ (.pointer (some ⟨p, 0, none⟩))).setCell ⟨w.heap.size + 1, 1, none⟩ (.int .i64 E)).setCell ⟨w.heap.size + 1, 2, none⟩ (.bool false)) :=
                       ⟨p, o, rfl, hI2.turn hP fun k hk e => by have := hN.out k hk; have := hsz.out; omega, fun k hk => by have := hN.out k hk; have := hsz.out; omega, G.turn.trans hP fun k hk e => by omega⟩
                     replace hfin := Lib.hid hfin
                     clear hI2 hT2 G hP)
        refine bodyPost_ret (v := .agg #[.pointer (some ⟨p, 0, none⟩), .int .i64 E, .bool false]) (by simp [results, Tryz.results105, go_sem, q0, q1, q2]) rfl ?_
        exact hfin.out
end
section
open Go.RowKit
set_option maxRecDepth 100000 in
set_option maxHeartbeats 4000000 in
theorem stuck_any (q : Nat) (oq : Option (Nat × Nat)) (m e : Int) (w : World) (hI : It w q oq m) (hb : bl m.natAbs ≤ 1000000) (he : -100000000 ≤ e ∧ e ≤ 100000000) :
    Calls Tryz.prog 106 #[.agg #[.pointer (some ⟨q, 0, none⟩), .int .i64 e, .bool false]] w (NbRes w (m * 2) (e - 1)) := by
  obtain ⟨F, hsz⟩ := RX.made w (.pointer (some ⟨q, 0, none⟩)) (.int .i64 e) (.bool false) 115
  have hq : ∀ k, IB q oq k → k < w.heap.size := fun k hk => hI.lt hk
  have hI1 := hI.still F.turn
  have hw : IntKind.i64.wrap (e - 1) = e - 1 := IntWalk.i64_in _ (by omega)
  replace hI := Lib.hid hI1
  clear hI1
  replace hq := Lib.hid hq
  clear he
  go_enter Tryz.func106, Tryz.ntmps106
  go_wp2_with fail
  generalize World.alloc (World.alloc w _) _ = w2 at F hsz hI ⊢
  have h0 := It.made w2
  rw [hsz] at h0
  have t3 := (Turn.refl (fun _ => False) w2).alloc (.cells #[.bool false, .slice none 0 0] 128)
  have F3 := F.still t3
  have hA := Lsh_any (w.heap.size + 1 + 1) none 0 q oq m 1 _ h0 (hI.out.still t3) (.inr fun k hk g => by
    have := hq.out k g
    rcases hk with e | ⟨c, e⟩
    · omega
    · cases e) (by omega) (by omega) (by omega)
  have hA : Calls Tryz.prog 124 #[.pointer (some ⟨w.heap.size + 1 + 1, 0, none⟩), .pointer (some ⟨q, 0, none⟩), .int .u64 1] _ _ := hA
  replace F3 := Lib.hid F3
  have hs3 := size_alloc w2 (.cells #[.bool false, .slice none 0 0] 128)
  generalize (w2.alloc (.cells #[.bool false, .slice none 0 0] 128)) = w3 at *
  replace hs3 := Lib.hid hs3
  replace hsz := Lib.hid hsz
  clear h0 t3 F hI hb
  go_wp2_with (go_at_call 124; ((with_reducible refine hA.mono ?_)); rintro en wa ⟨rfl, o, h1, h2, h3⟩
               have G := F3.out.more h3 fun k hk => by
                 rcases hk with e | ⟨c, e⟩
                 · omega
                 · cases e
               have x1 := G.x1
               have x2 := G.x2
               have r0 := G.r0
               have r1 := G.r1
               have r2 := G.r2
               have f0 := G.f 0
               have f1 := G.f 1
               have f2 := G.f 2
               obtain ⟨q0, q1, q2⟩ := set3 (.pointer (some ⟨w.heap.size + 1 + 1, 0, none⟩)) (.int .i64 (e - 1)) (.bool false) r0 r1 r2
               have hP := put3 wa (w.heap.size + 1) (.pointer (some ⟨w.heap.size + 1 + 1, 0, none⟩)) (.int .i64 (e - 1)) (.bool false)
               have hib : ∀ k, IB (w.heap.size + 1 + 1) o k → w.heap.size + 1 < k := fun k hk => by
                 rcases hk with e | ⟨c, e⟩
                 · omega
                 · rcases h2 k c e with ⟨d, g⟩ | g
                   · cases g
                   · have := hs3.out; have := hsz.out; omega
               have hfin : NbRes w (m * 2) (e - 1) (.returned (.agg #[.pointer (some ⟨w.heap.size + 1 + 1, 0, none⟩), .int .i64 (e - 1), .bool false])) (((wa.setCell ⟨w.heap.size + 1, 0, none⟩ (.pointer (some ⟨w.heap.size + 1 + 1, 0, none⟩))).setCell ⟨w.heap.size + 1, 1, none⟩ (.int .i64 (e - 1))).setCell ⟨w.heap.size + 1, 2, none⟩ (.bool false)) :=
                 ⟨_, o, rfl, h1.turn hP fun k hk e => by have := hib k hk; omega, fun k hk => by have := hib k hk; omega, G.turn.trans hP fun k hk e => by omega⟩
               replace hfin := Lib.hid hfin
               clear h1 h2 h3 G hP hib)
  refine bodyPost_ret (v := .agg #[.pointer (some ⟨w.heap.size + 1 + 1, 0, none⟩), .int .i64 (e - 1), .bool false]) (by simp [results, Tryz.results106, go_sem, q0, q1, q2]) rfl ?_
  exact hfin.out
end
end Go.Proofs.YtllapbkoildfiaaGreatFmt
