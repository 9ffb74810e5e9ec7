/- Walks of package eft: split, TwoProd · Sums and products of words, infinite ones too: what they are, as words · The walk of eft.TwoProd · The plain law of intervals: what contains a number. -/
import Derived.Test.YtllapbkoildfiaaGreatFmtM30
import Derived.Test.YtllapbkoildfiaaGreatFmtM00
import Derived.Test.YtllapbkoildfiaaGreatFmtM29
set_option linter.all false
set_option exponentiation.threshold 100000
namespace Go.Proofs.YtllapbkoildfiaaGreatFmt
section
open Go.RowKit
theorem fmul {x y : Nat} {a b z : Int} {N : Nat} (hx : FV x a) (hy : FV y b) (hz : a * b = z * 2 ^ 1074) (h : z.natAbs < 2 ^ N) (hN : N ≤ 2094) : ∃ r, floatBits .mul .f64 x y = some r ∧ FV r (rn z) := by
  obtain ⟨h1, rfl⟩ := hx
  obtain ⟨h2, rfl⟩ := hy
  obtain ⟨r, e1, e2, e3⟩ := mul_word h1 h2 hz (rn_mid h hN).1
  exact ⟨r, e1, e2, e3⟩
def Nm (a X : Int) (i : Nat) : Prop := a = X * 2 ^ i ∧ (X = 0 ∨ ((4503599627370496 ≤ X ∧ X < 9007199254740992) ∨ (4503599627370496 ≤ -X ∧ -X < 9007199254740992)))
theorem cut_small {X : Int} (h : X = 0 ∨ ((4503599627370496 ≤ X ∧ X < 9007199254740992) ∨ (4503599627370496 ≤ -X ∧ -X < 9007199254740992))) :
    rn (X - cut X) = X - cut X ∧ (cut X).natAbs ≤ 9007199254740992 ∧ (X - cut X).natAbs ≤ 67108864 ∧ X.natAbs ≤ 9007199254740992 := by
  rcases h with rfl | h
  · rw [cut_zero]; exact ⟨rn_zero, by omega, by omega, by omega⟩
  · obtain ⟨-, h2, h3, h4, h5⟩ := cut_spec h
    exact ⟨cut_low h, by omega, by omega, by omega⟩
theorem two_prod_all {X Y : Int} (hX : X = 0 ∨ ((4503599627370496 ≤ X ∧ X < 9007199254740992) ∨ (4503599627370496 ≤ -X ∧ -X < 9007199254740992))) (hY : Y = 0 ∨ ((4503599627370496 ≤ Y ∧ Y < 9007199254740992) ∨ (4503599627370496 ≤ -Y ∧ -Y < 9007199254740992))) :
    rn (rn ((X - cut X) * (Y - cut Y)) - rn (rn (rn (rn (X * Y) - rn (cut X * cut Y)) - rn ((X - cut X) * cut Y)) - rn (cut X * (Y - cut Y)))) = X * Y - rn (X * Y) := by
  rcases hX with rfl | hX
  · simp only [cut_zero, Int.zero_mul, Int.sub_zero, rn_zero]
  · rcases hY with rfl | hY
    · simp only [cut_zero, Int.mul_zero, Int.sub_zero, rn_zero]
    · exact two_prod0 hX hY
theorem abs_pow (z : Int) (n : Nat) : (z * 2 ^ n).natAbs = z.natAbs * 2 ^ n := by rw [Int.natAbs_mul, Int.natAbs_pow]; rfl
theorem abs_lt_pow {z : Int} {n c : Nat} (h : z.natAbs < 2 ^ c) : (z * 2 ^ n).natAbs < 2 ^ (c + n) := by
  rw [abs_pow, Nat.pow_add]
  exact Nat.mul_lt_mul_of_pos_right h (Nat.two_pow_pos _)
theorem half_word : FV 4728779608772575232 (134217729 * 2 ^ 1074) := by
  refine ⟨⟨by omega, by omega⟩, ?_⟩
  unfold fv
  rw [if_neg (by decide), show 4728779608772575232 % 9223372036854775808 = 1049 * 4503599627370496 + 4503599660924928 by decide, mg_at (.inr (by decide))]
  rw [show (1074 : Nat) = 25 + 1049 by decide, Int.pow_add, ← Int.mul_assoc, Int.natCast_mul, Int.natCast_pow]
  rfl
set_option maxRecDepth 100000 in
theorem split_any (x : Nat) (a X : Int) (i : Nat) (hx : FV x a) (hn : Nm a X i) (hi : i ≤ 1900) :
    ∃ h l, FV h (cut X * 2 ^ i) ∧ FV l ((X - cut X) * 2 ^ i) ∧ ∀ w, Calls Tryz.prog 137 #[.float .f64 x] w fun e w' => e = .returned (.tuple #[.float .f64 h, .float .f64 l]) ∧ w = w' := by
  obtain ⟨rfl, hX⟩ := hn
  obtain ⟨c1, c2, c3, c4⟩ := cut_small hX
  have b1 : (134217729 * X).natAbs < 2 ^ 81 := by rw [show (2 : Nat) ^ 81 = 2417851639229258349412352 by decide]; omega
  obtain ⟨c, e1, f1⟩ := fmul (z := 134217729 * X * 2 ^ i) half_word hx (by rw [Int.mul_assoc, Int.mul_assoc, Int.mul_comm (2 ^ 1074), Int.mul_assoc, Int.mul_assoc]) (abs_lt_pow b1) (by omega)
  rw [rn_shift] at f1
  have b2 := (rn_mid b1 (by omega)).2
  have b3 : (rn (134217729 * X) - X).natAbs < 2 ^ 82 := by rw [show (2 : Nat) ^ 81 = 2417851639229258349412352 by decide] at b2; rw [show (2 : Nat) ^ 82 = 4835703278458516698824704 by decide]; omega
  obtain ⟨d, e2, f2⟩ := fsub f1 hx (by rw [← Int.sub_mul]; exact abs_lt_pow b3) (by omega)
  rw [← Int.sub_mul, rn_shift] at f2
  have b4 := (rn_mid b3 (by omega)).2
  have b5 : (rn (134217729 * X) - rn (rn (134217729 * X) - X)).natAbs < 2 ^ 83 := by rw [show (2 : Nat) ^ 81 = 2417851639229258349412352 by decide] at b2; rw [show (2 : Nat) ^ 82 = 4835703278458516698824704 by decide] at b4; rw [show (2 : Nat) ^ 83 = 9671406556917033397649408 by decide]; omega
  obtain ⟨h, e3, f3⟩ := fsub f1 f2 (by rw [← Int.sub_mul]; exact abs_lt_pow b5) (by omega)
  rw [← Int.sub_mul, rn_shift] at f3
  have f3' : FV h (cut X * 2 ^ i) := f3
  have b6 : (X - cut X).natAbs < 2 ^ 27 := by rw [show (2 : Nat) ^ 27 = 134217728 by decide]; omega
  obtain ⟨l, e4, f4⟩ := fsub hx f3' (by rw [← Int.sub_mul]; exact abs_lt_pow b6) (by omega)
  rw [← Int.sub_mul, rn_shift, c1] at f4
  refine ⟨h, l, f3', f4, fun w => ?_⟩
  have r1 : ∀ w, (binOp .mul 57 (.float .f64 4728779608772575232) (.float .f64 x)).run Tryz.prog w = .ok (.float .f64 c) w := fun w => run_float_arith w .mul 57 .f64 _ _ _ e1
  have r2 : ∀ w, (binOp .sub 57 (.float .f64 c) (.float .f64 x)).run Tryz.prog w = .ok (.float .f64 d) w := fun w => run_float_arith w .sub 57 .f64 _ _ _ e2
  have r3 : ∀ w, (binOp .sub 57 (.float .f64 c) (.float .f64 d)).run Tryz.prog w = .ok (.float .f64 h) w := fun w => run_float_arith w .sub 57 .f64 _ _ _ e3
  have r4 : ∀ w, (binOp .sub 57 (.float .f64 x) (.float .f64 h)).run Tryz.prog w = .ok (.float .f64 l) w := fun w => run_float_arith w .sub 57 .f64 _ _ _ e4
  clear e1 e2 e3 e4 f1 f2 f3 f4 f3' hx b1 b2 b3 b4 b5 b6 c1 c2 c3 c4 hX
  go_enter Tryz.func137, Tryz.ntmps137
  go_wp2
  go_ret2
  exact ⟨rfl, rfl⟩
theorem prod_words {x y p q r s : Nat} {X Y : Int} {i j n : Nat} (hX : X = 0 ∨ ((4503599627370496 ≤ X ∧ X < 9007199254740992) ∨ (4503599627370496 ≤ -X ∧ -X < 9007199254740992))) (hY : Y = 0 ∨ ((4503599627370496 ≤ Y ∧ Y < 9007199254740992) ∨ (4503599627370496 ≤ -Y ∧ -Y < 9007199254740992)))
    (hn : i + j = n + 1074) (hN : n ≤ 1900) (hx : FV x (X * 2 ^ i)) (hy : FV y (Y * 2 ^ j)) (hp : FV p (cut X * 2 ^ i)) (hq : FV q ((X - cut X) * 2 ^ i)) (hr : FV r (cut Y * 2 ^ j)) (hs : FV s ((Y - cut Y) * 2 ^ j)) :
    ∃ g m1 m2 m3 m4 d1 d2 d3 k, floatBits .mul .f64 x y = some g ∧ floatBits .mul .f64 q s = some m1 ∧ floatBits .mul .f64 p r = some m2 ∧ floatBits .sub .f64 g m2 = some d1 ∧ floatBits .mul .f64 q r = some m3 ∧ floatBits .sub .f64 d1 m3 = some d2 ∧ floatBits .mul .f64 p s = some m4 ∧ floatBits .sub .f64 d2 m4 = some d3 ∧ floatBits .sub .f64 m1 d3 = some k ∧
      FV g (rn (X * Y) * 2 ^ n) ∧ FV k ((X * Y - rn (X * Y)) * 2 ^ n) := by
  have key : ∀ A B : Int, A * 2 ^ i * (B * 2 ^ j) = A * B * 2 ^ n * 2 ^ 1074 := fun A B => by
    rw [Int.mul_assoc (A * B), ← Int.pow_add, ← hn, Int.pow_add]
    generalize (2 : Int) ^ i = u
    generalize (2 : Int) ^ j = v
    ac_rfl
  obtain ⟨-, x2, x3, x4⟩ := cut_small hX
  obtain ⟨-, y2, y3, y4⟩ := cut_small hY
  have lim : ∀ {A B : Int} {u v : Nat}, A.natAbs ≤ u → B.natAbs ≤ v → u * v < 2 ^ 107 → (A * B).natAbs < 2 ^ 107 := fun ha hb h => Nat.lt_of_le_of_lt (mul_bound ha hb) h
  have v107 : (2 : Nat) ^ 107 = 162259276829213363391578010288128 := by decide
  have v108 : (2 : Nat) ^ 108 = 324518553658426726783156020576256 := by decide
  have v109 : (2 : Nat) ^ 109 = 649037107316853453566312041152512 := by decide
  have v110 : (2 : Nat) ^ 110 = 1298074214633706907132624082305024 := by decide
  have v111 : (2 : Nat) ^ 111 = 2596148429267413814265248164610048 := by decide
  have bg := lim x4 y4 (by decide)
  have bm1 := lim x3 y3 (by decide)
  have bm2 := lim x2 y2 (by decide)
  have bm3 := lim x3 y2 (by decide)
  have bm4 := lim x2 y3 (by decide)
  obtain ⟨g, e1, f1⟩ := fmul hx hy (key _ _) (abs_lt_pow bg) (by omega)
  obtain ⟨m1, e2, f2⟩ := fmul hq hs (key _ _) (abs_lt_pow bm1) (by omega)
  obtain ⟨m2, e3, f3⟩ := fmul hp hr (key _ _) (abs_lt_pow bm2) (by omega)
  obtain ⟨m3, e4, f4⟩ := fmul hq hr (key _ _) (abs_lt_pow bm3) (by omega)
  obtain ⟨m4, e5, f5⟩ := fmul hp hs (key _ _) (abs_lt_pow bm4) (by omega)
  rw [rn_shift] at f1 f2 f3 f4 f5
  have cg := (rn_mid bg (by omega)).2
  have c1 := (rn_mid bm1 (by omega)).2
  have c2 := (rn_mid bm2 (by omega)).2
  have c3 := (rn_mid bm3 (by omega)).2
  have c4 := (rn_mid bm4 (by omega)).2
  rw [v107] at cg c1 c2 c3 c4
  have b5 : (rn (X * Y) - rn (cut X * cut Y)).natAbs < 2 ^ 109 := by rw [v109]; clear bg bm1 bm2 bm3 bm4 c1 c3 c4 x2 x3 x4 y2 y3 y4 key hX hY; omega
  obtain ⟨d1, e6, f6⟩ := fsub f1 f3 (by rw [← Int.sub_mul]; exact abs_lt_pow b5) (by omega)
  rw [← Int.sub_mul, rn_shift] at f6
  have c5 := (rn_mid b5 (by omega)).2
  rw [v109] at c5
  have b6 : (rn (rn (X * Y) - rn (cut X * cut Y)) - rn ((X - cut X) * cut Y)).natAbs < 2 ^ 110 := by rw [v110]; clear bg bm1 bm2 bm3 bm4 c1 c2 c4 cg x2 x3 x4 y2 y3 y4 key hX hY b5; omega
  obtain ⟨d2, e7, f7⟩ := fsub f6 f4 (by rw [← Int.sub_mul]; exact abs_lt_pow b6) (by omega)
  rw [← Int.sub_mul, rn_shift] at f7
  have c6 := (rn_mid b6 (by omega)).2
  rw [v110] at c6
  have b7 : (rn (rn (rn (X * Y) - rn (cut X * cut Y)) - rn ((X - cut X) * cut Y)) - rn (cut X * (Y - cut Y))).natAbs < 2 ^ 111 := by rw [v111]; clear bg bm1 bm2 bm3 bm4 c1 c2 c3 cg c5 x2 x3 x4 y2 y3 y4 key hX hY b5 b6; omega
  obtain ⟨d3, e8, f8⟩ := fsub f7 f5 (by rw [← Int.sub_mul]; exact abs_lt_pow b7) (by omega)
  rw [← Int.sub_mul, rn_shift] at f8
  have c7 := (rn_mid b7 (by omega)).2
  rw [v111] at c7
  have b8 : (rn ((X - cut X) * (Y - cut Y)) - rn (rn (rn (rn (X * Y) - rn (cut X * cut Y)) - rn ((X - cut X) * cut Y)) - rn (cut X * (Y - cut Y)))).natAbs < 2 ^ 112 := by
    rw [show (2 : Nat) ^ 112 = 5192296858534827628530496329220096 by decide]; clear bg bm1 bm2 bm3 bm4 c2 c3 c4 cg c5 c6 x2 x3 x4 y2 y3 y4 key hX hY b5 b6 b7; omega
  obtain ⟨k, e9, f9⟩ := fsub f2 f8 (by rw [← Int.sub_mul]; exact abs_lt_pow b8) (by omega)
  rw [← Int.sub_mul, rn_shift, two_prod_all hX hY] at f9
  exact ⟨g, m1, m2, m3, m4, d1, d2, d3, k, e1, e2, e3, e6, e4, e7, e5, e8, e9, f1, f9⟩
end
section
open Ieee
theorem word_wd (ng : Bool) (r : Nat) : double.word ng r = wd ng r := by
  unfold Format.word wd
  rw [signWeight_eq]
theorem wd_mod (ng : Bool) {r : Nat} (h : r < 9223372036854775808) : wd ng r % 9223372036854775808 = r := by
  cases ng
  · rw [wd_f, Nat.mod_eq_of_lt h]
  · rw [wd_t, Nat.add_mod_left, Nat.mod_eq_of_lt h]
theorem min_ne (k : Nat) {c : Nat} (hc : c ≠ 0) : min (k + c) 9218868437227405312 ≠ 0 ∧ min (k + c) 9218868437227405312 < 9223372036854775808 := by
  have h1 : 0 < min (k + c) 9218868437227405312 := Nat.lt_min.2 ⟨Nat.lt_of_lt_of_le (Nat.pos_of_ne_zero hc) (Nat.le_add_left _ _), by decide⟩
  exact ⟨Nat.ne_of_gt h1, Nat.lt_of_le_of_lt (Nat.min_le_right _ _) (by decide)⟩
theorem nearest_nn (ng : Bool) (mag : Nat) (place : Int) : NN (double.nearest ng mag place) := by
  unfold Format.nearest
  split
  · rw [word_wd]; exact wd_nn (by omega)
  · rw [word_wd, infRung_eq]; exact wd_nn (Nat.min_le_right _ _)
theorem NN.inf {n : Nat} (h : NN n) (hf : ¬ Fin64 n) : n % 9223372036854775808 = 9218868437227405312 := by
  have h1 := h.1
  have h2 := h.2
  unfold Fin64 at hf
  omega
theorem rk_sign {n : Nat} (h : NN n) (hf : ¬ Fin64 n) : (n / 9223372036854775808 % 2 == 1) = decide (rk n < 0) ∧ (rk n = -9218868437227405312 ∨ rk n = 9218868437227405312) := by
  have e := rk_inf (h.inf hf)
  rw [e]
  by_cases g : n / 9223372036854775808 % 2 = 1
  · rw [if_pos g, g]; exact ⟨rfl, .inl rfl⟩
  · rw [if_neg g]
    exact ⟨by rw [beq_eq_false_iff_ne.2 g]; rfl, .inr rfl⟩
theorem inf_word (s : Bool) : NN (double.write (.infinity s)) ∧ rk (double.write (.infinity s)) = if s then -9218868437227405312 else 9218868437227405312 := by
  have e : double.write (.infinity s) = wd s 9218868437227405312 := by show double.word s double.infRung = _; rw [word_wd, infRung_eq]
  rw [e, wd_rk s (by omega)]
  exact ⟨wd_nn (Nat.le_refl _), rfl⟩
theorem add_fin {x y : Nat} (hx : Fin64 x) (hy : Fin64 y) : ∃ r, floatBits .add .f64 x y = some r ∧ NN r ∧ (r % 9223372036854775808 = 0 ↔ fv x + fv y = 0) := by
  obtain ⟨m, i, rx, hi, mx⟩ := read_fin hx
  obtain ⟨n, j, ry, hj, my⟩ := read_fin hy
  show ∃ r, double.add x y = some r ∧ _
  unfold Format.add
  rw [rx, ry, fv_read mx, fv_read my]
  generalize (x / 9223372036854775808 % 2 == 1) = s
  generalize (y / 9223372036854775808 % 2 == 1) = t
  simp only [Datum.sum, Option.map]
  generalize hT : signed s m (i - min i j).toNat + signed t n (j - min i j).toNat = T
  have hTz : T * ((2 ^ (min i j + 1074).toNat : Nat) : Int) = signed s m (i + 1074).toNat + signed t n (j + 1074).toNat := by
    rw [← hT, Int.add_mul, signed_mul, signed_mul]
    congr 2 <;> omega
  generalize signed s m (i + 1074).toNat + signed t n (j + 1074).toNat = z at *
  generalize hb : min i j = b at *
  have hbase : -1074 ≤ b := by omega
  refine ⟨_, rfl, nearest_nn _ _ _, ?_⟩
  show double.nearest _ T.natAbs b % 9223372036854775808 = 0 ↔ z = 0
  by_cases h0 : T = 0
  · have hz0 : z = 0 := by rw [← hTz, h0, Int.zero_mul]
    refine ⟨fun _ => hz0, fun _ => ?_⟩
    rw [h0]
    unfold Format.nearest
    rw [if_pos (show Int.natAbs 0 = 0 from rfl), word_wd, wd_mod _ (by omega)]
  · have hz0 : z ≠ 0 := fun e => h0 (zero_mul_pow (hTz.trans e))
    refine ⟨fun h => absurd h ?_, fun h => absurd h hz0⟩
    have hn : T.natAbs * 2 ^ (b + 1074).toNat = z.natAbs * 2 ^ 0 := by rw [← hTz, Int.natAbs_mul, Int.natAbs_natCast, Nat.pow_zero, Nat.mul_one]
    obtain ⟨L, c, e1, e2, e3⟩ := nearest_at (neg := if T = 0 then s && t else decide (T < 0)) (mag := T.natAbs) (n := z.natAbs) (t := 0) (e := (b + 1074).toNat) (place := b) (by omega) hn (by omega)
    have hc : c ≠ 0 := by
      rintro rfl
      rw [Nat.zero_mul, ← rn_abs] at e2
      rcases Int.lt_or_gt_of_ne hz0 with g | g
      · have := rn_sign_neg g; omega
      · have := rn_sign_pos g; omega
    obtain ⟨μ, hμ⟩ : ∃ μ, μ = min (L * 4503599627370496 + c) 9218868437227405312 := ⟨_, rfl⟩
    have h6 : μ ≠ 0 ∧ μ < 9223372036854775808 := by rw [hμ]; exact min_ne _ hc
    rw [e1, ← hμ, word_wd, wd_mod _ h6.2]
    exact h6.1
theorem mul_fin {x y : Nat} (hx : Fin64 x) (hy : Fin64 y) : ∃ r, floatBits .mul .f64 x y = some r ∧ NN r := by
  obtain ⟨m, i, rx, hi, mx⟩ := read_fin hx
  obtain ⟨n, j, ry, hj, my⟩ := read_fin hy
  show ∃ r, double.mul x y = some r ∧ _
  unfold Format.mul
  rw [rx, ry]
  exact ⟨_, rfl, nearest_nn _ _ _⟩
theorem add_inf {x y : Nat} {σ : Int} (hx : NN x) (hy : NN y) (h1 : rk x = σ ∨ Fin64 x) (h2 : rk y = σ ∨ Fin64 y) (hf : ¬ (Fin64 x ∧ Fin64 y)) : ∃ r, floatBits .add .f64 x y = some r ∧ NN r ∧ rk r = σ := by
  show ∃ r, double.add x y = some r ∧ _
  unfold Format.add
  by_cases fx : Fin64 x
  · have fy : ¬ Fin64 y := fun g => hf ⟨fx, g⟩
    obtain ⟨e1, e2⟩ := rk_sign hy fy
    have h3 := h2.resolve_right fy
    obtain ⟨m, i, rx, -, -⟩ := read_fin fx
    rw [rx, read_inf (hy.inf fy), e1]
    obtain ⟨g1, g2⟩ := inf_word (decide (rk y < 0))
    refine ⟨_, rfl, g1, g2.trans ?_⟩
    rw [← h3]
    rcases e2 with e2 | e2 <;> rw [e2] <;> rfl
  · obtain ⟨e1, e2⟩ := rk_sign hx fx
    have h3 := h1.resolve_right fx
    obtain ⟨g1, g2⟩ := inf_word (decide (rk x < 0))
    have g3 : rk (double.write (.infinity (decide (rk x < 0)))) = σ := by
      rw [g2, ← h3]
      rcases e2 with e2 | e2 <;> rw [e2] <;> rfl
    by_cases fy : Fin64 y
    · obtain ⟨m, i, ry, -, -⟩ := read_fin fy
      rw [ry, read_inf (hx.inf fx), e1]
      exact ⟨_, rfl, g1, g3⟩
    · obtain ⟨e3, -⟩ := rk_sign hy fy
      rw [read_inf (hx.inf fx), read_inf (hy.inf fy), e1, e3, h3, h2.resolve_right fy]
      rw [h3] at g1 g3
      exact ⟨_, by simp only [Datum.sum, if_true, Option.map], g1, g3⟩
theorem mul_inf {x y : Nat} (hx : NN x) (hy : NN y) (h1 : rk x ≠ 0) (h2 : rk y ≠ 0) (hf : ¬ (Fin64 x ∧ Fin64 y)) :
    ∃ r, floatBits .mul .f64 x y = some r ∧ NN r ∧ rk r = if (decide (rk x < 0) != decide (rk y < 0)) then -9218868437227405312 else 9218868437227405312 := by
  have fm : ∀ {n : Nat}, Fin64 n → rk n ≠ 0 → ∃ m i, double.read n = .number (decide (rk n < 0)) m i ∧ m ≠ 0 := fun {n} hn h0 => by
    obtain ⟨m, i, rn, -, hm⟩ := read_fin hn
    refine ⟨m, i, ?_, ?_⟩
    · rw [rn]
      congr 1
      unfold rk at h0 ⊢
      by_cases g : n / 9223372036854775808 % 2 = 1
      · rw [if_pos g] at h0 ⊢
        rw [g, decide_eq_true (by omega)]; rfl
      · rw [if_neg g] at h0 ⊢
        rw [beq_eq_false_iff_ne.2 g, decide_eq_false (by omega)]
    · rintro rfl
      rw [Nat.zero_mul] at hm
      have := mg_zero hm
      unfold rk at h0
      rw [this] at h0
      split at h0 <;> exact h0 rfl
  show ∃ r, double.mul x y = some r ∧ _
  unfold Format.mul
  by_cases fx : Fin64 x
  · have fy : ¬ Fin64 y := fun g => hf ⟨fx, g⟩
    obtain ⟨m, i, rx, hm⟩ := fm fx h1
    obtain ⟨e1, -⟩ := rk_sign hy fy
    rw [rx, read_inf (hy.inf fy), e1]
    obtain ⟨g1, g2⟩ := inf_word (decide (rk y < 0) ^^ decide (rk x < 0))
    refine ⟨_, by simp only [Datum.product, if_neg hm, Option.map], g1, g2.trans ?_⟩
    cases decide (rk x < 0) <;> cases decide (rk y < 0) <;> rfl
  · obtain ⟨e1, -⟩ := rk_sign hx fx
    obtain ⟨g1, g2⟩ := inf_word (decide (rk x < 0) ^^ decide (rk y < 0))
    have g3 : rk (double.write (.infinity (decide (rk x < 0) ^^ decide (rk y < 0)))) = if (decide (rk x < 0) != decide (rk y < 0)) then -9218868437227405312 else 9218868437227405312 := by
      rw [g2]
    by_cases fy : Fin64 y
    · obtain ⟨m, i, ry, hm⟩ := fm fy h2
      rw [ry, read_inf (hx.inf fx), e1]
      exact ⟨_, by simp only [Datum.product, if_neg hm, Option.map], g1, g3⟩
    · obtain ⟨e3, -⟩ := rk_sign hy fy
      rw [read_inf (hx.inf fx), read_inf (hy.inf fy), e1, e3]
      exact ⟨_, by simp only [Datum.product, Option.map], g1, g3⟩
end
section
open Go.RowKit
def Kar (w : World) : Prop := w.cell? ⟨5, 0, none⟩ = some (.int .i64 40)
theorem Kar.still {w w' : World} (h : Kar w) (t : Turn (fun _ => False) w w') : Kar w' := (t.cell (p := ⟨5, 0, none⟩) (World.block_lt_of_cell? w _ h) id).trans h
set_option maxRecDepth 100000 in
set_option maxHeartbeats 4000000 in
theorem TwoProd_any (x y : Nat) (a b X Y : Int) (i j n : Nat) (w : World) (hx : FV x a) (hy : FV y b) (ha : Nm a X i) (hb : Nm b Y j) (hn : i + j = n + 1074) (hN : n ≤ 1900) (hi : i ≤ 1900) (hj : j ≤ 1900) (hT : Tab w) (hK : Kar w) :
    Calls Tryz.prog 101 #[.int .i64 (iw x), .int .i64 (iw y)] w (Step w (rn (X * Y) * 2 ^ n) ((X * Y - rn (X * Y)) * 2 ^ n)) := by
  obtain ⟨p, q, fp, fq, hS1⟩ := split_any x a X i hx ha hi
  obtain ⟨r, s, fr, fs, hS2⟩ := split_any y b Y j hy hb hj
  obtain ⟨rfl, hX⟩ := ha
  obtain ⟨rfl, hY⟩ := hb
  obtain ⟨g, m1, m2, m3, m4, d1, d2, d3, k, e1, e2, e3, e4, e5, e6, e7, e8, e9, fg, fk⟩ := prod_words hX hY hn hN hx hy fp fq fr fs
  have c1 := Float_any x w hx.1.1
  have c2 := Float_any y w hy.1.1
  have c3 := fun w => bOf_any g w fg.1.nn
  have c4 := fun w => bOf_any k w fk.1.nn
  have t1 := (Turn.refl (fun _ => False) w).alloc (.cells #[.float .f64 x, .float .f64 y] 57)
  have k0 := fun i => cell_made #[.float .f64 x, .float .f64 y] 57 w i
  have hF := finite_all w.heap.size 2 2 (fun i => if i = 0 then x else y) (w.alloc (.cells #[.float .f64 x, .float .f64 y] 57)) (by omega) (fun i hi => by
    rcases (by omega : i = 0 ∨ i = 1) with rfl | rfl
    · exact ⟨k0 0, hx.1⟩
    · exact ⟨k0 1, hy.1⟩)
  have hN1 := num_any x (w.alloc (.cells #[.float .f64 x, .float .f64 y] 57)) hx.1 (hT.still t1)
  have hN2 := fun wa (t : Turn (fun _ => False) w wa) => num_any y wa hy.1 (hT.still t)
  have hM : ∀ wb va vb, Turn (fun _ => False) w wb → NumK wb va 1074 (fv x) → NumK wb vb 1074 (fv y) → Calls Tryz.prog 66 #[va, vb] wb (KRes2 wb (1074 + 1074) (fv x * fv y)) := fun wb va vb t h1 h2 =>
    dMul_any va vb 1074 _ _ wb (by omega) h1 h2 (Nat.lt_trans (fv_bound hx.1) (Nat.pow_lt_pow_right (by omega) (by omega))) (Nat.lt_trans (fv_bound hy.1) (Nat.pow_lt_pow_right (by omega) (by omega))) (hT.still t) (hK.still t)
  have hval : (fv g + fv k) * 2 ^ 1074 = fv x * fv y := by
    rw [fg.2, fk.2, hx.2, hy.2, ← Int.add_mul, show rn (X * Y) + (X * Y - rn (X * Y)) = X * Y by omega, Int.mul_assoc, ← Int.pow_add, ← hn, Int.pow_add]
    generalize (2 : Int) ^ i = u
    generalize (2 : Int) ^ j = v
    ac_rfl
  have hJ : ∀ wb v, Turn (fun _ => False) w wb → NumK wb v (1074 + 1074) (fv x * fv y) → Calls Tryz.prog 140 #[.float .f64 g, .float .f64 k, v] wb fun e w' => e = .returned (.bool true) ∧ Turn (fun _ => False) wb w' := fun wb v t hv =>
    just_any g k v 1074 _ wb fg.1 fk.1 hv (by omega) hval (hT.still t)
  have hf := Lib.hid (show ∀ w', Turn (fun _ => False) w w' → Step w (rn (X * Y) * 2 ^ n) ((X * Y - rn (X * Y)) * 2 ^ n) (.returned (.tuple #[.int .i64 (iw g), .int .i64 (iw k), .bool true])) w' from fun w' t => ⟨g, k, rfl, fg, fk, t⟩)
  have r1 : ∀ w, (binOp .mul 57 (.float .f64 x) (.float .f64 y)).run Tryz.prog w = .ok (.float .f64 g) w := fun w => run_float_arith w .mul 57 .f64 _ _ _ e1
  have r2 : ∀ w, (binOp .mul 57 (.float .f64 q) (.float .f64 s)).run Tryz.prog w = .ok (.float .f64 m1) w := fun w => run_float_arith w .mul 57 .f64 _ _ _ e2
  have r3 : ∀ w, (binOp .mul 57 (.float .f64 p) (.float .f64 r)).run Tryz.prog w = .ok (.float .f64 m2) w := fun w => run_float_arith w .mul 57 .f64 _ _ _ e3
  have r4 : ∀ w, (binOp .sub 57 (.float .f64 g) (.float .f64 m2)).run Tryz.prog w = .ok (.float .f64 d1) w := fun w => run_float_arith w .sub 57 .f64 _ _ _ e4
  have r5 : ∀ w, (binOp .mul 57 (.float .f64 q) (.float .f64 r)).run Tryz.prog w = .ok (.float .f64 m3) w := fun w => run_float_arith w .mul 57 .f64 _ _ _ e5
  have r6 : ∀ w, (binOp .sub 57 (.float .f64 d1) (.float .f64 m3)).run Tryz.prog w = .ok (.float .f64 d2) w := fun w => run_float_arith w .sub 57 .f64 _ _ _ e6
  have r7 : ∀ w, (binOp .mul 57 (.float .f64 p) (.float .f64 s)).run Tryz.prog w = .ok (.float .f64 m4) w := fun w => run_float_arith w .mul 57 .f64 _ _ _ e7
  have r8 : ∀ w, (binOp .sub 57 (.float .f64 d2) (.float .f64 m4)).run Tryz.prog w = .ok (.float .f64 d3) w := fun w => run_float_arith w .sub 57 .f64 _ _ _ e8
  have r9 : ∀ w, (binOp .sub 57 (.float .f64 m1) (.float .f64 d3)).run Tryz.prog w = .ok (.float .f64 k) w := fun w => run_float_arith w .sub 57 .f64 _ _ _ e9
  have hS1 := hS1 w
  have hS2 := hS2 w
  replace hN2 := Lib.hid hN2
  replace hM := Lib.hid hM
  replace hJ := Lib.hid hJ
  replace t1 := Lib.hid t1
  replace c3 := Lib.hid c3
  replace c4 := Lib.hid c4
  clear hx hy hX hY hT hK fp fq fr fs fg fk e1 e2 e3 e4 e5 e6 e7 e8 e9 k0 hval hn
  go_enter Tryz.func101, Tryz.ntmps101
  go_wp2_with (first
    | (go_at_call 61; ((with_reducible refine c1.mono ?_)); rintro en wa ⟨rfl, rfl⟩)
    | (go_at_call 61; ((with_reducible refine c2.mono ?_)); rintro en wa ⟨rfl, rfl⟩)
    | (go_at_call 137; ((with_reducible refine hS1.mono ?_)); rintro en wa ⟨rfl, rfl⟩)
    | (go_at_call 137; ((with_reducible refine hS2.mono ?_)); rintro en wa ⟨rfl, rfl⟩)
    | (go_at_call 138; ((with_reducible refine hF.mono ?_)); rintro en wa ⟨rfl, rfl⟩)
    | (go_at_call 139; ((with_reducible refine hN1.mono ?_)); rintro en wa ⟨v1, rfl, g1, g2⟩
       have ta := t1.out.trans' g2
       have hN3 := hN2.out wa ta
       clear hN1)
    | (go_at_call 139; ((with_reducible refine hN3.mono ?_)); rintro en wb ⟨v2, rfl, g3, g4⟩
       have tb := ta.trans' g4
       have hA2 := hM.out _ _ _ tb (g1.still g4) g3
       clear hN3 g1 g2 g3 g4 ta)
    | (go_at_call 66; ((with_reducible refine hA2.mono ?_)); rintro en wc ⟨v3, rfl, g5, g6⟩
       obtain ⟨s3, l3, n3, c3', E3, rfl⟩ := g5.form
       have t7 := g6.alloc (.cells #[.bool s3, .slice l3 n3 c3', .int .i64 E3] 53)
       have t8 := (Turn.refl (fun _ => False) wc).alloc (.cells #[.bool s3, .slice l3 n3 c3', .int .i64 E3] 53)
       have hJ2 := hJ.out _ _ (tb.trans' t7) (g5.still t8)
       have t9 := Lib.hid (tb.trans' t7)
       clear hA2 g5 g6 tb t7 t8)
    | (go_at_call 140; ((with_reducible refine hJ2.mono ?_)); rintro en wd ⟨rfl, g7⟩
       have c5 := c3.out wd
       have c6 := c4.out wd)
    | (go_at_call 59; ((with_reducible refine c5.mono ?_)); rintro en wa ⟨rfl, rfl⟩)
    | (go_at_call 59; ((with_reducible refine c6.mono ?_)); rintro en wa ⟨rfl, rfl⟩))
  go_returns
  exact hf.out _ (t9.out.trans' g7)
end
section
structure Enc (lo hi : Nat) (U : Int) (J : Nat) : Prop where
  lo : Lo lo U J
  hi : Hi hi U J
theorem fv_pos {n : Nat} : 0 < fv n ↔ 0 < rk n := by
  have := @fv_lt 0 n
  have e : fv 0 = 0 := fv_zero.2 rfl
  rw [e, rk_zero] at this
  exact this
theorem fv_negv {n : Nat} : fv n < 0 ↔ rk n < 0 := by
  have := @fv_lt n 0
  have e : fv 0 = 0 := fv_zero.2 rfl
  rw [e, rk_zero] at this
  exact this
theorem fv_le {x y : Nat} : fv x ≤ fv y ↔ rk x ≤ rk y := by
  have := @fv_lt y x
  omega
theorem Lo.lt {b : Nat} {U : Int} {J : Nat} (h : Lo b U J) : rk b < 9218868437227405312 := by
  rcases h.2 with g | ⟨g, -⟩
  · omega
  · exact (rk_fin g).2
theorem Hi.gt {b : Nat} {U : Int} {J : Nat} (h : Hi b U J) : -9218868437227405312 < rk b := by
  rcases h.2 with g | ⟨g, -⟩
  · omega
  · exact (rk_fin g).1
theorem Enc.le {lo hi : Nat} {U : Int} {J : Nat} (h : Enc lo hi U J) : rk lo ≤ rk hi := by
  rcases h.lo.2 with g | ⟨g1, g2⟩
  · have := h.hi.gt; omega
  · rcases h.hi.2 with k | ⟨k1, k2⟩
    · have := h.lo.lt; omega
    · exact fv_le.1 (Int.le_of_mul_le_mul_right (Int.le_trans g2 k2) (pow_pos2 J))
theorem cn_fin {n : Nat} (h : Fin64 n) : Fin64 (cn n) := by
  unfold cn
  split
  · exact ⟨by omega, by omega⟩
  · exact h
theorem Lo.cn {b : Nat} {U : Int} {J : Nat} (h : Lo b U J) : Lo (cn b) U J := by
  refine ⟨cn_nn h.1, ?_⟩
  rw [rk_cn, fv_cn]
  exact h.2.imp id fun g => ⟨cn_fin g.1, g.2⟩
theorem Hi.cn {b : Nat} {U : Int} {J : Nat} (h : Hi b U J) : Hi (cn b) U J := by
  refine ⟨cn_nn h.1, ?_⟩
  rw [rk_cn, fv_cn]
  exact h.2.imp id fun g => ⟨cn_fin g.1, g.2⟩
theorem Hi.opp {b : Nat} {U : Int} {J : Nat} (h : Hi b U J) : Lo (opp b) (-U) J := by
  refine ⟨h.1.opp, ?_⟩
  rcases h.2 with g | ⟨g1, g2⟩
  · left; rw [rk_opp h.1.1, g]
  · right; refine ⟨g1.opp, ?_⟩; rw [fv_opp h.1.1, Int.neg_mul]; omega
theorem Enc.cn {lo hi : Nat} {U : Int} {J : Nat} (h : Enc lo hi U J) : Enc (cn lo) (cn hi) U J := ⟨h.lo.cn, h.hi.cn⟩
theorem Enc.opp {lo hi : Nat} {U : Int} {J : Nat} (h : Enc lo hi U J) : Enc (opp hi) (opp lo) (-U) J := ⟨h.hi.opp, h.lo.opp⟩
theorem Enc.one {b : Nat} (h : Fin64 b) : Enc b b (fv b) 0 :=
  ⟨⟨h.nn, .inr ⟨h, by rw [Int.pow_zero, Int.mul_one]; exact Int.le_refl _⟩⟩, ⟨h.nn, .inr ⟨h, by rw [Int.pow_zero, Int.mul_one]; exact Int.le_refl _⟩⟩⟩
theorem Lo.add {a b r : Nat} {U V : Int} {J : Nat} (ha : Lo a U J) (hb : Lo b V J) (hr : NN r) (h : rk r = -9218868437227405312 ∨ Fin64 a ∧ Fin64 b ∧ Fin64 r ∧ fv r ≤ fv a + fv b) : Lo r (U + V) J := by
  refine ⟨hr, h.imp id fun ⟨h1, h2, h3, h4⟩ => ⟨h3, ?_⟩⟩
  have e1 : fv a * 2 ^ J ≤ U := by
    rcases ha.2 with g | g
    · have := rk_fin h1; omega
    · exact g.2
  have e2 : fv b * 2 ^ J ≤ V := by
    rcases hb.2 with g | g
    · have := rk_fin h2; omega
    · exact g.2
  have e3 := Int.mul_le_mul_of_nonneg_right h4 (Int.le_of_lt (pow_pos2 J))
  rw [Int.add_mul] at e3
  omega
theorem Hi.add {a b r : Nat} {U V : Int} {J : Nat} (ha : Hi a U J) (hb : Hi b V J) (hr : NN r) (h : rk r = 9218868437227405312 ∨ Fin64 a ∧ Fin64 b ∧ Fin64 r ∧ fv a + fv b ≤ fv r) : Hi r (U + V) J := by
  refine ⟨hr, h.imp id fun ⟨h1, h2, h3, h4⟩ => ⟨h3, ?_⟩⟩
  have e1 : U ≤ fv a * 2 ^ J := by
    rcases ha.2 with g | g
    · have := rk_fin h1; omega
    · exact g.2
  have e2 : V ≤ fv b * 2 ^ J := by
    rcases hb.2 with g | g
    · have := rk_fin h2; omega
    · exact g.2
  have e3 := Int.mul_le_mul_of_nonneg_right h4 (Int.le_of_lt (pow_pos2 J))
  rw [Int.add_mul] at e3
  omega
structure TLo (x y t : Nat) : Prop where
  nn : NN t
  zero : rk x = 0 ∨ rk y = 0 → t = 0
  fin : Fin64 x → Fin64 y → rk x ≠ 0 → rk y ≠ 0 → rk t = -9218868437227405312 ∨ Fin64 t ∧ fv t * 2 ^ 1074 ≤ fv x * fv y
  inf : ¬ (Fin64 x ∧ Fin64 y) → (rk x < 0 ∧ 0 < rk y ∨ 0 < rk x ∧ rk y < 0) → rk t = -9218868437227405312
structure TUp (x y t : Nat) : Prop where
  nn : NN t
  zero : rk x = 0 ∨ rk y = 0 → t = 0
  fin : Fin64 x → Fin64 y → rk x ≠ 0 → rk y ≠ 0 → rk t = 9218868437227405312 ∨ Fin64 t ∧ fv x * fv y ≤ fv t * 2 ^ 1074
  inf : ¬ (Fin64 x ∧ Fin64 y) → (rk x < 0 ∧ rk y < 0 ∨ 0 < rk x ∧ 0 < rk y) → rk t = 9218868437227405312
theorem zero_lo {W : Int} (h : 0 ≤ W) : Lo 0 W 1074 := by
  refine ⟨⟨by omega, by omega⟩, .inr ⟨⟨by omega, by omega⟩, ?_⟩⟩
  rw [show fv 0 = 0 from fv_zero.2 rfl, Int.zero_mul]
  exact h
theorem TLo.ok {x y t : Nat} {W : Int} (h : TLo x y t) (hx : Fin64 x) (hy : Fin64 y) (hW : fv x * fv y ≤ W) : Lo t W 1074 := by
  have z1 : fv x = 0 ↔ rk x = 0 := by have := @fv_pos x; have := @fv_negv x; omega
  have z2 : fv y = 0 ↔ rk y = 0 := by have := @fv_pos y; have := @fv_negv y; omega
  by_cases g : rk x = 0 ∨ rk y = 0
  · rw [h.zero g]
    refine zero_lo ?_
    rcases g with g | g
    · rw [z1.2 g, Int.zero_mul] at hW; exact hW
    · rw [z2.2 g, Int.mul_zero] at hW; exact hW
  · have g1 : rk x ≠ 0 := fun e => g (.inl e)
    have g2 : rk y ≠ 0 := fun e => g (.inr e)
    exact ⟨h.nn, (h.fin hx hy g1 g2).imp id fun k => ⟨k.1, Int.le_trans k.2 hW⟩⟩
theorem TLo.inf' {x y t : Nat} {W : Int} (h : TLo x y t) (hx : ¬ (Fin64 x ∧ Fin64 y)) (hs : rk x < 0 ∧ 0 < rk y ∨ 0 < rk x ∧ rk y < 0) : Lo t W 1074 := ⟨h.nn, .inl (h.inf hx hs)⟩
theorem TLo.nought {x y t : Nat} {W : Int} (h : TLo x y t) (hz : rk x = 0 ∨ rk y = 0) (hW : 0 ≤ W) : Lo t W 1074 := by rw [h.zero hz]; exact zero_lo hW
theorem Lo.cases {b : Nat} {U : Int} (h : Lo b U 0) : (rk b = -9218868437227405312 ∧ ¬ Fin64 b) ∨ (Fin64 b ∧ fv b ≤ U) := by
  rcases h.2 with g | ⟨g1, g2⟩
  · exact .inl ⟨g, fun k => by have := rk_fin k; omega⟩
  · rw [Int.pow_zero, Int.mul_one] at g2; exact .inr ⟨g1, g2⟩
theorem Hi.cases {b : Nat} {U : Int} (h : Hi b U 0) : (rk b = 9218868437227405312 ∧ ¬ Fin64 b) ∨ (Fin64 b ∧ U ≤ fv b) := by
  rcases h.2 with g | ⟨g1, g2⟩
  · exact .inl ⟨g, fun k => by have := rk_fin k; omega⟩
  · rw [Int.pow_zero, Int.mul_one] at g2; exact .inr ⟨g1, g2⟩
theorem mul_le_l {a b c : Int} (h : b ≤ c) (ha : 0 ≤ a) : a * b ≤ a * c := Int.mul_le_mul_of_nonneg_left h ha
theorem mul_le_r {a b c : Int} (h : b ≤ c) (ha : 0 ≤ a) : b * a ≤ c * a := Int.mul_le_mul_of_nonneg_right h ha
theorem mul_ge_l {a b c : Int} (h : b ≤ c) (ha : a ≤ 0) : a * c ≤ a * b := by
  have := mul_le_l h (show 0 ≤ -a by omega)
  rw [Int.neg_mul, Int.neg_mul] at this
  omega
theorem mul_ge_r {a b c : Int} (h : b ≤ c) (ha : a ≤ 0) : c * a ≤ b * a := by
  rw [Int.mul_comm c a, Int.mul_comm b a]; exact mul_ge_l h ha
theorem corner {a b c d t1 t2 t3 t4 : Nat} {U V : Int} (h : Enc a b U 0) (k : Enc c d V 0) (T1 : TLo a c t1) (T2 : TLo a d t2) (T3 : TLo b c t3) (T4 : TLo b d t4) :
    Lo t1 (U * V) 1074 ∨ Lo t2 (U * V) 1074 ∨ Lo t3 (U * V) 1074 ∨ Lo t4 (U * V) 1074 := by
  have pa := @fv_pos a
  have na := @fv_negv a
  have pb := @fv_pos b
  have nb := @fv_negv b
  have pc := @fv_pos c
  have nc := @fv_negv c
  have pd := @fv_pos d
  have nd := @fv_negv d
  rcases (show V < 0 ∨ 0 ≤ V by omega) with hV | hV
  · -- V < 0
    have c0 : rk c < 0 := by
      rcases k.lo.cases with ⟨g, -⟩ | ⟨-, g⟩
      · omega
      · exact nc.1 (by omega)
    rcases h.hi.cases with ⟨b1, b2⟩ | ⟨b1, b2⟩
    · exact .inr (.inr (.inl (T3.inf' (fun g => b2 g.1) (.inr ⟨by omega, c0⟩))))
    · have e1 := mul_ge_r b2 (Int.le_of_lt hV)
      rcases (show fv b < 0 ∨ 0 ≤ fv b by omega) with g | g
      · refine .inr (.inr (.inr ?_))
        rcases k.hi.cases with ⟨d1, d2⟩ | ⟨d1, d2⟩
        · exact T4.inf' (fun g => d2 g.2) (.inl ⟨nb.1 g, by omega⟩)
        · exact T4.ok b1 d1 (Int.le_trans (mul_ge_l d2 (Int.le_of_lt g)) e1)
      · refine .inr (.inr (.inl ?_))
        rcases k.lo.cases with ⟨c1, c2⟩ | ⟨c1, c2⟩
        · by_cases g0 : rk b = 0
          · refine T3.nought (.inl g0) ?_
            have : fv b = 0 := by omega
            have e2 := mul_ge_r (show U ≤ 0 by omega) (Int.le_of_lt hV)
            rw [Int.zero_mul] at e2
            exact e2
          · exact T3.inf' (fun g => c2 g.2) (.inr ⟨by omega, c0⟩)
        · exact T3.ok b1 c1 (Int.le_trans (mul_le_l c2 g) e1)
  · rcases h.lo.cases with ⟨a1, a2⟩ | ⟨a1, a2⟩
    · refine .inr (.inl ?_)
      by_cases g0 : rk d = 0
      · refine T2.nought (.inr g0) ?_
        have hd : V ≤ fv d := by
          rcases k.hi.cases with ⟨d1, d2⟩ | ⟨d1, d2⟩
          · omega
          · exact d2
        have : V = 0 := by omega
        rw [this, Int.mul_zero]
        exact Int.le_refl _
      · refine T2.inf' (fun g => a2 g.1) (.inl ⟨by omega, ?_⟩)
        rcases k.hi.cases with ⟨d1, d2⟩ | ⟨d1, d2⟩
        · omega
        · omega
    · have e1 := mul_le_r a2 hV
      rcases (show fv a < 0 ∨ 0 ≤ fv a by omega) with g | g
      · refine .inr (.inl ?_)
        rcases k.hi.cases with ⟨d1, d2⟩ | ⟨d1, d2⟩
        · exact T2.inf' (fun g => d2 g.2) (.inl ⟨na.1 g, by omega⟩)
        · exact T2.ok a1 d1 (Int.le_trans (mul_ge_l d2 (Int.le_of_lt g)) e1)
      · refine .inl ?_
        rcases k.lo.cases with ⟨c1, c2⟩ | ⟨c1, c2⟩
        · by_cases g0 : rk a = 0
          · refine T1.nought (.inl g0) ?_
            exact Int.mul_nonneg (by omega) hV
          · exact T1.inf' (fun g => c2 g.2) (.inr ⟨by omega, by omega⟩)
        · exact T1.ok a1 c1 (Int.le_trans (mul_le_l c2 g) e1)
theorem TUp.opp {x y t : Nat} (h : TUp x y t) (hx : NN x) (ht : t ≠ 0) : TLo (opp x) y (opp t) := by
  have e1 := rk_opp hx.1
  have e2 := rk_opp h.nn.1
  have f1 : Fin64 (YtllapbkoildfiaaGreatFmt.opp x) → Fin64 x := fun g => by have := g.opp; rwa [opp_opp hx.1] at this
  refine ⟨h.nn.opp, fun g => ?_, fun g1 g2 g3 g4 => ?_, fun g1 g2 => ?_⟩
  · exact absurd (h.zero (by omega)) ht
  · rcases h.fin (f1 g1) g2 (by omega) g4 with k | ⟨k1, k2⟩
    · left; omega
    · right; refine ⟨k1.opp, ?_⟩; rw [fv_opp h.nn.1, fv_opp hx.1, Int.neg_mul, Int.neg_mul]; omega
  · have := h.inf (fun k => g1 ⟨k.1.opp, k.2⟩) (by omega)
    omega
def op0 (t : Nat) : Nat := if t = 0 then 0 else opp t
theorem TUp.op0 {x y t : Nat} (h : TUp x y t) (hx : NN x) : TLo (YtllapbkoildfiaaGreatFmt.opp x) y (YtllapbkoildfiaaGreatFmt.op0 t) := by
  unfold YtllapbkoildfiaaGreatFmt.op0
  by_cases ht : t = 0
  · rw [if_pos ht]
    subst ht
    have e1 := rk_opp hx.1
    have f1 : Fin64 (YtllapbkoildfiaaGreatFmt.opp x) → Fin64 x := fun g => by have := g.opp; rwa [opp_opp hx.1] at this
    have e0 : fv 0 = 0 := fv_zero.2 rfl
    refine ⟨h.nn, fun _ => rfl, fun g1 g2 g3 g4 => ?_, fun g1 g2 => ?_⟩
    · rcases h.fin (f1 g1) g2 (by omega) g4 with k | ⟨k1, k2⟩
      · rw [rk_zero] at k; omega
      · right; refine ⟨k1, ?_⟩
        rw [e0, Int.zero_mul] at k2 ⊢
        rw [fv_opp hx.1, Int.neg_mul]; omega
    · have := h.inf (fun k => g1 ⟨k.1.opp, k.2⟩) (by omega)
      rw [rk_zero] at this; omega
  · rw [if_neg ht]; exact h.opp hx ht
theorem op0_hi {t : Nat} {W : Int} (ht : NN t) (h : Lo (op0 t) (-W) 1074) : Hi t W 1074 := by
  unfold op0 at h
  by_cases h0 : t = 0
  · rw [if_pos h0] at h
    subst h0
    rcases h.2 with g | ⟨g1, g2⟩
    · rw [rk_zero] at g; omega
    · refine ⟨ht, .inr ⟨g1, ?_⟩⟩
      rw [show fv 0 = 0 from fv_zero.2 rfl, Int.zero_mul] at g2 ⊢
      omega
  · rw [if_neg h0] at h
    have := h.opp
    rw [opp_opp ht.1, Int.neg_neg] at this
    exact this
theorem corner_up {a b c d t1 t2 t3 t4 : Nat} {U V : Int} (h : Enc a b U 0) (k : Enc c d V 0) (T1 : TUp a c t1) (T2 : TUp a d t2) (T3 : TUp b c t3) (T4 : TUp b d t4) :
    Hi t1 (U * V) 1074 ∨ Hi t2 (U * V) 1074 ∨ Hi t3 (U * V) 1074 ∨ Hi t4 (U * V) 1074 := by
  have := corner h.opp k (T3.op0 h.hi.1) (T4.op0 h.hi.1) (T1.op0 h.lo.1) (T2.op0 h.lo.1)
  rw [Int.neg_mul] at this
  rcases this with g | g | g | g
  · exact .inr (.inr (.inl (op0_hi T3.nn g)))
  · exact .inr (.inr (.inr (op0_hi T4.nn g)))
  · exact .inl (op0_hi T1.nn g)
  · exact .inr (.inl (op0_hi T2.nn g))
theorem Lo.less {t r : Nat} {W : Int} {J : Nat} (h : Lo t W J) (hr : NN r) (hl : rk r ≤ rk t) : Lo r W J := by
  refine ⟨hr, ?_⟩
  rcases h.2 with g | ⟨g1, g2⟩
  · left
    have := hr.2
    have : -9218868437227405312 ≤ rk r := by unfold rk; split <;> omega
    omega
  · have hb := rk_fin g1
    by_cases e : rk r = -9218868437227405312
    · exact .inl e
    · right
      have : Fin64 r := ⟨hr.1, by
        have := hr.2
        rcases Nat.lt_or_ge (r % 9223372036854775808) 9218868437227405312 with k | k
        · exact k
        · exfalso
          have k2 : r % 9223372036854775808 = 9218868437227405312 := by omega
          have := rk_inf k2
          split at this <;> omega⟩
      exact ⟨this, Int.le_trans (mul_le_r (fv_le.2 hl) (Int.le_of_lt (pow_pos2 J))) g2⟩
theorem Hi.more {t r : Nat} {W : Int} {J : Nat} (h : Hi t W J) (hr : NN r) (hl : rk t ≤ rk r) : Hi r W J := by
  have := h.opp.less (r := YtllapbkoildfiaaGreatFmt.opp r) hr.opp (by rw [rk_opp hr.1, rk_opp h.1.1]; omega)
  have := this.opp
  rwa [opp_opp hr.1, Int.neg_neg] at this
theorem Enc.pos {lo hi : Nat} {U : Int} {J : Nat} (h : Enc lo hi U J) (g : 0 < rk lo) : 0 < U := by
  rcases h.lo.2 with k | ⟨-, k⟩
  · omega
  · have := fv_pos.2 g
    have := Int.mul_pos this (pow_pos2 J)
    omega
theorem Enc.neg {lo hi : Nat} {U : Int} {J : Nat} (h : Enc lo hi U J) (g : rk hi < 0) : U < 0 := by
  rcases h.hi.2 with k | ⟨-, k⟩
  · omega
  · have := fv_negv.2 g
    have := Int.mul_neg_of_neg_of_pos this (pow_pos2 J)
    omega
theorem Enc.zero {lo hi : Nat} {U : Int} {J : Nat} (h : Enc lo hi U J) (g1 : rk lo = 0) (g2 : rk hi = 0) : U = 0 := by
  have e1 : fv lo = 0 := by have := @fv_pos lo; have := @fv_negv lo; omega
  have e2 : fv hi = 0 := by have := @fv_pos hi; have := @fv_negv hi; omega
  rcases h.lo.2 with k | ⟨-, k⟩
  · omega
  · rcases h.hi.2 with l | ⟨-, l⟩
    · omega
    · rw [e1, Int.zero_mul] at k
      rw [e2, Int.zero_mul] at l
      omega
end
end Go.Proofs.YtllapbkoildfiaaGreatFmt
