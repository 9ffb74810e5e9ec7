/- The plain law of scaling: words times a power of two, and the determinant's sign · The law's small functions: num, Coordinate, Zero, Finite, good, Scaled, scaled. -/
import Derived.Test.YtllapbkoildfiaaGreatFmtM44
set_option linter.all false
set_option exponentiation.threshold 100000
namespace Go.Proofs.YtllapbkoildfiaaGreatFmt
section
def scO (x : Nat) (k : Int) : Bool := decide (x % 9223372036854775808 = 0) || !(decide (ef x = 0) || decide ((ef x : Int) + k < 1) || decide ((ef x : Int) + k > 2046))
def scW (x : Nat) (k : Int) : Nat := if x % 9223372036854775808 = 0 then x else if scO x k = true then ((x : Int) + k * 4503599627370496).toNat else 0
structure Scl (k : Int) (x y : Nat) : Prop where
  fin : Fin64 y
  up : 0 ≤ k → fv y = fv x * 2 ^ k.toNat
  down : k < 0 → fv x = fv y * 2 ^ (-k).toNat
theorem mg_up {r s : Nat} (n : Nat) (h : 4503599627370496 ≤ r) (e : s = r + n * 4503599627370496) : mg s = mg r * 2 ^ n := by
  have h1 : mg r = (4503599627370496 + r % 4503599627370496) * 2 ^ (r / 4503599627370496 - 1) := if_neg (by omega)
  have h2 : mg s = (4503599627370496 + s % 4503599627370496) * 2 ^ (s / 4503599627370496 - 1) := if_neg (by omega)
  rw [h1, h2, Nat.mul_assoc, ← Nat.pow_add, show s % 4503599627370496 = r % 4503599627370496 by omega, show s / 4503599627370496 - 1 = r / 4503599627370496 - 1 + n by omega]
theorem fv_up {x y : Nat} (n : Nat) (h : 4503599627370496 ≤ x % 9223372036854775808) (hy : y % 9223372036854775808 = x % 9223372036854775808 + n * 4503599627370496) (hs : y / 9223372036854775808 = x / 9223372036854775808) : fv y = fv x * 2 ^ n := by
  have e := mg_up n h hy
  unfold fv
  rw [hs, e]
  split
  · rw [Int.natCast_mul, Int.neg_mul, Int.natCast_pow]; rfl
  · rw [Int.natCast_mul, Int.natCast_pow]; rfl
theorem scl_of {x : Nat} {k : Int} (hx : Fin64 x) (hk : -600 ≤ k) (hk2 : k ≤ 600) (h : scO x k = true) : Scl k x (scW x k) := by
  obtain ⟨h1, h2⟩ := hx
  by_cases h0 : x % 9223372036854775808 = 0
  · have e : scW x k = x := if_pos h0
    have z : fv x = 0 := by
      unfold fv
      rw [h0]
      split <;> rfl
    rw [e]
    exact ⟨⟨h1, h2⟩, fun _ => by rw [z, Int.zero_mul], fun _ => by rw [z, Int.zero_mul]⟩
  · have e : scW x k = ((x : Int) + k * 4503599627370496).toNat := by unfold scW; rw [if_neg h0, if_pos h]
    unfold scO at h
    rw [decide_eq_false h0, Bool.false_or, Bool.not_eq_true', Bool.or_eq_false_iff, Bool.or_eq_false_iff, decide_eq_false_iff_not, decide_eq_false_iff_not, decide_eq_false_iff_not] at h
    obtain ⟨⟨g1, g2⟩, g3⟩ := h
    unfold ef at g1 g2 g3
    rw [e]
    clear e
    refine ⟨⟨by omega, by omega⟩, fun hp => ?_, fun hp => ?_⟩
    · exact fv_up k.toNat (by omega) (by omega) (by omega)
    · exact fv_up (-k).toNat (by omega) (by omega) (by omega)
theorem scW_lt {x : Nat} {k : Int} (hx : Fin64 x) (hk : -600 ≤ k) (hk2 : k ≤ 600) : scW x k < 18446744073709551616 := by
  by_cases h : scO x k = true
  · exact (scl_of hx hk hk2 h).fin.1
  · unfold scW
    rw [if_neg h]
    split
    · exact hx.1
    · omega
theorem scW_iw {x : Nat} {k : Int} (hx : Fin64 x) (hk : -600 ≤ k) (hk2 : k ≤ 600) (h0 : x % 9223372036854775808 ≠ 0) (h : scO x k = true) : iw (scW x k) = iw x + k * 4503599627370496 := by
  have e : scW x k = ((x : Int) + k * 4503599627370496).toNat := by unfold scW; rw [if_neg h0, if_pos h]
  unfold scO at h
  rw [decide_eq_false h0, Bool.false_or, Bool.not_eq_true', Bool.or_eq_false_iff, Bool.or_eq_false_iff, decide_eq_false_iff_not, decide_eq_false_iff_not, decide_eq_false_iff_not] at h
  obtain ⟨⟨g1, g2⟩, g3⟩ := h
  obtain ⟨h1, h2⟩ := hx
  unfold ef at g1 g2 g3
  rw [e]
  clear e
  unfold iw
  split <;> split <;> omega
theorem dt_up {P : Int} {a b c d e f a' b' c' d' e' f' : Nat} (h1 : fv a' = fv a * P) (h2 : fv b' = fv b * P) (h3 : fv c' = fv c * P) (h4 : fv d' = fv d * P) (h5 : fv e' = fv e * P) (h6 : fv f' = fv f * P) : dt a' b' c' d' e' f' = dt a b c d e f * (P * P) := by
  unfold dt
  rw [h1, h2, h3, h4, h5, h6]
  generalize fv a = A
  generalize fv b = B
  generalize fv c = C
  generalize fv d = D
  generalize fv e = E
  generalize fv f = F
  have e : ∀ x y : Int, x * P - y * P = (x - y) * P := fun x y => (Int.sub_mul x y P).symm
  rw [e, e, e, e, Int.sub_mul ((A - E) * (D - F)) ((B - F) * (C - E)) (P * P)]
  congr 1 <;> ac_rfl
theorem sgn_mul_pos {z P : Int} (h : 0 < P) : sgn (z * P) = sgn z := by
  unfold YtllapbkoildfiaaGreatFmt.sgn
  rcases Int.lt_trichotomy z 0 with g | g | g
  · rw [if_pos (Int.mul_neg_of_neg_of_pos g h), if_pos g]
  · rw [g, Int.zero_mul]
  · have := Int.mul_pos g h
    rw [if_neg (by omega), if_neg (by omega), if_neg (by omega), if_neg (by omega)]
theorem sgn_scl {k : Int} {a b c d e f a' b' c' d' e' f' : Nat} (h1 : Scl k a a') (h2 : Scl k b b') (h3 : Scl k c c') (h4 : Scl k d d') (h5 : Scl k e e') (h6 : Scl k f f') : sgn (dt a' b' c' d' e' f') = sgn (dt a b c d e f) := by
  by_cases hk : 0 ≤ k
  · rw [dt_up (h1.up hk) (h2.up hk) (h3.up hk) (h4.up hk) (h5.up hk) (h6.up hk)]
    exact sgn_mul_pos (Int.mul_pos (Int.pow_pos (by omega)) (Int.pow_pos (by omega)))
  · have hk : k < 0 := by omega
    rw [dt_up (h1.down hk) (h2.down hk) (h3.down hk) (h4.down hk) (h5.down hk) (h6.down hk)]
    exact (sgn_mul_pos (Int.mul_pos (Int.pow_pos (by omega)) (Int.pow_pos (by omega)))).symm
end
section
open Go.RowKit
theorem lnum_any (a : Int) (w : World) : Calls Tryz.prog 8 #[.int .i64 a] w fun e w' => e = .returned (.int .i64 a) ∧ w = w' := by
  go_enter Tryz.func8, Tryz.ntmps8
  go_wp2
  go_ret
  exact ⟨rfl, rfl⟩
def fi (x : Nat) : Bool := ((ef x : Int) != 2047)
theorem fi_iff {x : Nat} (h : x < 18446744073709551616) : fi x = true ↔ Fin64 x := by
  rw [Fin64.iff h]
  unfold fi
  rw [bne_iff_ne]
  omega
theorem coord_any (x : Nat) (w : World) (h : x < 18446744073709551616) : Calls Tryz.prog 15 #[.int .i64 (iw x)] w fun e w' => e = .returned (.bool (fi x)) ∧ w = w' := by
  have a := ef_iw h
  unfold fi
  go_enter Tryz.func15, Tryz.ntmps15
  go_wp2
  go_ret
  exact ⟨rfl, rfl⟩
theorem zero_eq (x : Nat) (w : World) (h : x % 9223372036854775808 = 0) (hx : x < 18446744073709551616) : Calls Tryz.prog 16 #[.int .i64 (iw x)] w fun e w' => e = .returned (.int .i64 0) ∧ w = w' := by
  rcases (by omega : x = 0 ∨ x = 9223372036854775808) with rfl | rfl
  · have e : iw 0 = 0 := by decide
    rw [e]
    go_enter Tryz.func16, Tryz.ntmps16
    go_wp2
    go_ret
    exact ⟨rfl, rfl⟩
  · have e : iw 9223372036854775808 = -9223372036854775808 := by decide
    rw [e]
    go_enter Tryz.func16, Tryz.ntmps16
    go_wp2
    go_ret
    exact ⟨rfl, rfl⟩
theorem zero_ne (x : Nat) (w : World) (h : x % 9223372036854775808 ≠ 0) (hx : x < 18446744073709551616) : Calls Tryz.prog 16 #[.int .i64 (iw x)] w fun e w' => (e = .returned (.int .i64 (iw x)) ∧ w = w') := by
  have e : (iw x == -9223372036854775808) = false := by
    rw [beq_eq_false_iff_ne]
    unfold iw
    split <;> omega
  go_enter Tryz.func16, Tryz.ntmps16
  go_wp2
  go_ret
  exact ⟨rfl, rfl⟩
set_option maxRecDepth 100000 in
theorem finite_gen (X Y : Int) (p q : Bool) (w : World) (hx : ∀ w, Calls Tryz.prog 15 #[.int .i64 X] w fun e w' => e = .returned (.bool p) ∧ w = w') (hy : ∀ w, Calls Tryz.prog 15 #[.int .i64 Y] w fun e w' => e = .returned (.bool q) ∧ w = w') :
    Calls Tryz.prog 9 #[.agg #[.int .i64 X, .int .i64 Y]] w fun e w' => e = .returned (.bool (p && q)) ∧ Turn (fun _ => False) w w' := by
  have t := Lib.hid ((Turn.refl (fun _ => False) w).alloc (.cells #[.int .i64 X, .int .i64 Y] 23))
  cases p <;>
  · go_enter Tryz.func9, Tryz.ntmps9
    go_wp2_with (first
      | (go_at_call 15; ((with_reducible refine (hx _).mono ?_)); rintro en wa ⟨rfl, rfl⟩)
      | (go_at_call 15; ((with_reducible refine (hy _).mono ?_)); rintro en wa ⟨rfl, rfl⟩))
    go_ret
    exact ⟨rfl, t.out⟩
set_option maxRecDepth 100000 in
set_option maxHeartbeats 2000000 in
theorem good_gen (ax ay bx by' cx cy : Int) (p q r : Bool) (w : World)
    (h1 : ∀ w, Calls Tryz.prog 9 #[.agg #[.int .i64 ax, .int .i64 ay]] w fun e w' => e = .returned (.bool p) ∧ Turn (fun _ => False) w w')
    (h2 : ∀ w, Calls Tryz.prog 9 #[.agg #[.int .i64 bx, .int .i64 by']] w fun e w' => e = .returned (.bool q) ∧ Turn (fun _ => False) w w')
    (h3 : ∀ w, Calls Tryz.prog 9 #[.agg #[.int .i64 cx, .int .i64 cy]] w fun e w' => e = .returned (.bool r) ∧ Turn (fun _ => False) w w') :
    Calls Tryz.prog 5 #[.agg #[.int .i64 ax, .int .i64 ay], .agg #[.int .i64 bx, .int .i64 by'], .agg #[.int .i64 cx, .int .i64 cy]] w fun e w' => e = .returned (.bool (p && (q && r))) ∧ Turn (fun _ => False) w w' := by
  obtain ⟨p1, -⟩ := pt3_ok w ax ay bx by' cx cy
  have d0 := p1.a.c0
  have d1 := p1.a.c1
  have d2 := p1.b.c0
  have d3 := p1.b.c1
  have d4 := p1.c.c0
  have d5 := p1.c.c1
  replace p1 := Lib.hid p1
  cases p <;> cases q <;>
  · go_enter Tryz.func5, Tryz.ntmps5
    go_wp2_with (first
      | (go_at_call 9; ((with_reducible refine (h1 _).mono ?_)); rintro en w1 ⟨rfl, h⟩
         have q := p1.out.still h
         have e2 := q.b.c0
         have e3 := q.b.c1
         have e4 := q.c.c0
         have e5 := q.c.c1
         have p2 := Lib.hid q
         clear h q d0 d1 d2 d3 d4 d5)
      | (go_at_call 9; ((with_reducible refine (h2 _).mono ?_)); rintro en w2 ⟨rfl, h⟩
         have q := p2.out.still h
         have d4 := q.c.c0
         have d5 := q.c.c1
         have p3 := Lib.hid q
         clear h q e2 e3 e4 e5)
      | (go_at_call 9; ((with_reducible refine (h3 _).mono ?_)); rintro en w3 ⟨rfl, h⟩
         have p4 := Lib.hid (p3.out.still h)
         clear h))
    go_ret
    exact ⟨rfl, p4.out.turn⟩
set_option maxRecDepth 100000 in
theorem Scaled_any (x : Nat) (k : Int) (w : World) (hx : Fin64 x) (hk : -600 ≤ k) (hk2 : k ≤ 600) : Calls Tryz.prog 10 #[.int .i64 (iw x), .int .i64 k] w fun e w' => e = .returned (.tuple #[.int .i64 (iw (scW x k)), .bool (scO x k)]) ∧ w = w' := by
  have a := ef_iw hx.1
  by_cases h0 : x % 9223372036854775808 = 0
  · have hz := fun w => zero_eq x w h0 hx.1
    have e1 : scW x k = x := if_pos h0
    have e2 : scO x k = true := by unfold scO; rw [decide_eq_true h0, Bool.true_or]
    rw [e1, e2]
    go_enter Tryz.func10, Tryz.ntmps10
    go_wp2_with (go_at_call 16; ((with_reducible refine (hz _).mono ?_)); rintro en wa ⟨rfl, rfl⟩)
    refine bodyPost_ret (v := .tuple #[.int .i64 (iw x), .bool true]) (by simp [results, Tryz.results10, go_sem]) rfl ?_
    exact ⟨rfl, rfl⟩
  · have hz := fun w => zero_ne x w h0 hx.1
    have hne : (iw x == 0) = false := by
      rw [beq_eq_false_iff_ne]
      have := hx.1
      unfold iw
      split <;> omega
    have hE : ef x < 2048 := Nat.mod_lt _ (by omega)
    by_cases h : scO x k = true
    · have e1 := scW_iw hx hk hk2 h0 h
      have hb := iw_lo (scW_lt hx hk hk2)
      have hb2 := iw_hi (scW_lt hx hk hk2)
      rw [h]
      unfold scO at h
      rw [decide_eq_false h0, Bool.false_or, Bool.not_eq_true', Bool.or_eq_false_iff, Bool.or_eq_false_iff] at h
      obtain ⟨⟨g1, g2⟩, g3⟩ := h
      rw [decide_eq_false_iff_not] at g1 g2 g3
      generalize scW x k = y at *
      generalize ef x = E at *
      generalize iw x = X at *
      have f1 : ((E : Int) == 0) = false := by rw [beq_eq_false_iff_ne]; omega
      rw [e1] at hb hb2 ⊢
      replace e1 := Lib.hid e1
      go_enter Tryz.func10, Tryz.ntmps10
      go_wp2_with (go_at_call 16; ((with_reducible refine (hz _).mono ?_)); rintro en wa ⟨rfl, rfl⟩)
      refine bodyPost_ret (v := .tuple #[.int .i64 (X + k * 4503599627370496), .bool true]) (by simp [results, Tryz.results10, go_sem]) rfl ?_
      exact ⟨rfl, rfl⟩
    · have e1 : scW x k = 0 := by unfold scW; rw [if_neg h0, if_neg h]
      have e2 : iw 0 = 0 := by decide
      rw [e1, e2]
      have h' := Bool.eq_false_iff.2 h
      rw [h']
      unfold scO at h'
      rw [decide_eq_false h0, Bool.false_or, Bool.not_eq_false'] at h'
      clear e1 e2 h
      generalize ef x = E at *
      generalize iw x = X at *
      by_cases g1 : E = 0
      · have f1 : ((E : Int) == 0) = true := by rw [g1]; rfl
        clear h' g1
        go_enter Tryz.func10, Tryz.ntmps10
        go_wp2_with (go_at_call 16; ((with_reducible refine (hz _).mono ?_)); rintro en wa ⟨rfl, rfl⟩)
        refine bodyPost_ret (v := .tuple #[.int .i64 0, .bool false]) (by simp [results, Tryz.results10, go_sem]) rfl ?_
        exact ⟨rfl, rfl⟩
      · have f1 : ((E : Int) == 0) = false := by rw [beq_eq_false_iff_ne]; omega
        rw [decide_eq_false g1, Bool.false_or, Bool.or_eq_true, decide_eq_true_eq, decide_eq_true_eq] at h'
        by_cases g2 : (E : Int) + k < 1
        · clear h'
          go_enter Tryz.func10, Tryz.ntmps10
          go_wp2_with (go_at_call 16; ((with_reducible refine (hz _).mono ?_)); rintro en wa ⟨rfl, rfl⟩)
          refine bodyPost_ret (v := .tuple #[.int .i64 0, .bool false]) (by simp [results, Tryz.results10, go_sem]) rfl ?_
          exact ⟨rfl, rfl⟩
        · have g3 : (E : Int) + k > 2046 := by omega
          clear h'
          go_enter Tryz.func10, Tryz.ntmps10
          go_wp2_with (go_at_call 16; ((with_reducible refine (hz _).mono ?_)); rintro en wa ⟨rfl, rfl⟩)
          refine bodyPost_ret (v := .tuple #[.int .i64 0, .bool false]) (by simp [results, Tryz.results10, go_sem]) rfl ?_
          exact ⟨rfl, rfl⟩
end
end Go.Proofs.YtllapbkoildfiaaGreatFmt
