/- What the floats of point say in whole numbers: the order of two finite binary64 words is the order of their ranks. -/
import Ieee.Arith
namespace Go.Proofs.Ytbmgjbpcijbocaa.Pf
open Ieee

/-- The rung of a word, as its magnitude in units of the least place. -/
def V (r : Nat) : Nat := if r < 4503599627370496 then r else (4503599627370496 + r % 4503599627370496) * 2 ^ (r / 4503599627370496 - 1)

theorem V_small {r : Nat} (h : r < 4503599627370496) : V r = r := by unfold V; rw [if_pos h]

theorem V_zero : V 0 = 0 := V_small (by omega)

theorem V_mono {r s : Nat} (h : r < s) : V r < V s := by
  by_cases hs : s < 4503599627370496
  · rw [V_small hs, V_small (by omega)]; exact h
  · have hs' : V s = (4503599627370496 + s % 4503599627370496) * 2 ^ (s / 4503599627370496 - 1) := by unfold V; rw [if_neg hs]
    have p1 : 0 < 2 ^ (s / 4503599627370496 - 1) := Nat.two_pow_pos _
    by_cases hr : r < 4503599627370496
    · rw [V_small hr, hs']
      have h1 : 4503599627370496 * 1 ≤ (4503599627370496 + s % 4503599627370496) * 2 ^ (s / 4503599627370496 - 1) := Nat.mul_le_mul (by omega) p1
      omega
    · have hr' : V r = (4503599627370496 + r % 4503599627370496) * 2 ^ (r / 4503599627370496 - 1) := by unfold V; rw [if_neg hr]
      rw [hr', hs']
      have hq : r / 4503599627370496 ≤ s / 4503599627370496 := Nat.div_le_div_right (by omega)
      by_cases he : r / 4503599627370496 = s / 4503599627370496
      · rw [he]
        have hm : r % 4503599627370496 < s % 4503599627370496 := by omega
        exact Nat.mul_lt_mul_of_pos_right (by omega) p1
      · have h2 : 2 ^ (r / 4503599627370496) ≤ 2 ^ (s / 4503599627370496 - 1) := Nat.pow_le_pow_right (by omega) (by omega)
        have h3 : 2 ^ (r / 4503599627370496) = 2 ^ (r / 4503599627370496 - 1) * 2 := by
          rw [← Nat.pow_succ]; congr 1; omega
        have h4 : (4503599627370496 + r % 4503599627370496) * 2 ^ (r / 4503599627370496 - 1) < 9007199254740992 * 2 ^ (r / 4503599627370496 - 1) :=
          Nat.mul_lt_mul_of_pos_right (by omega) (Nat.two_pow_pos _)
        have h5 : 4503599627370496 * 2 ^ (s / 4503599627370496 - 1) ≤ (4503599627370496 + s % 4503599627370496) * 2 ^ (s / 4503599627370496 - 1) :=
          Nat.mul_le_mul_right _ (by omega)
        have h6 : 4503599627370496 * 2 ^ (r / 4503599627370496) ≤ 4503599627370496 * 2 ^ (s / 4503599627370496 - 1) := Nat.mul_le_mul_left _ h2
        rw [h3] at h6
        omega

/-- The number that a rung stands for, signed. -/
def sg (neg : Bool) (n : Nat) : Int := if neg then -(n : Int) else (n : Int)

theorem signed_eq (neg : Bool) (m u : Nat) : signed neg m u = sg neg (m * 2 ^ u) := by
  unfold signed sg; rw [Nat.shiftLeft_eq]

theorem sg_mul (neg : Bool) (m k : Nat) : sg neg (m * k) = sg neg m * k := by
  unfold sg; split <;> simp [Int.neg_mul]

theorem compare_mul (a b : Int) (k : Nat) (hk : 0 < k) : compare (a * k) (b * k) = compare a b := by
  have hk' : (0 : Int) < k := by omega
  simp only [compare, compareOfLessAndEq]
  have e1 : (a * k < b * k) = (a < b) := by
    rw [eq_iff_iff]; exact Int.mul_lt_mul_right hk'
  have e2 : (a * k = b * k) = (a = b) := by
    rw [eq_iff_iff]; exact Int.mul_eq_mul_right_iff (by omega)
  simp only [e1, e2]

/-- Two signs and two rungs: the order of what they stand for is that of the signed rungs. -/
theorem compare_V (s t : Bool) (r q : Nat) : compare (sg s (V r)) (sg t (V q)) = compare (sg s r) (sg t q) := by
  have mono : ∀ x y : Nat, V x < V y ↔ x < y := fun x y => ⟨fun h => by
    rcases Nat.lt_trichotomy x y with g | g | g
    · exact g
    · subst g; omega
    · have := V_mono g; omega, V_mono⟩
  have inj : ∀ x y : Nat, V x = V y ↔ x = y := fun x y => ⟨fun h => by
    rcases Nat.lt_trichotomy x y with g | g | g
    · have := V_mono g; omega
    · exact g
    · have := V_mono g; omega, fun h => by rw [h]⟩
  have z : ∀ x : Nat, V x = 0 ↔ x = 0 := fun x => by have := inj x 0; rw [V_zero] at this; exact this
  have m1 := mono r q; have m2 := mono q r; have i1 := inj r q; have z1 := z r; have z2 := z q
  have e1 : (sg s (V r) < sg t (V q)) = (sg s r < sg t q) := by
    rw [eq_iff_iff]; unfold sg; cases s <;> cases t <;> simp <;> omega
  have e2 : (sg s (V r) = sg t (V q)) = (sg s r = sg t q) := by
    rw [eq_iff_iff]; unfold sg; cases s <;> cases t <;> simp <;> omega
  simp only [compare, compareOfLessAndEq, e1, e2]

/-- The sign and the rung of a word. -/
def sgn (w : Nat) : Bool := w / 9223372036854775808 % 2 == 1
def rg (w : Nat) : Nat := w % 9223372036854775808

theorem read_double (w : Nat) : double.read w = if rg w < 4503599627370496 then .number (sgn w) (rg w) (-1074) else if rg w < 9218868437227405312 then .number (sgn w) (4503599627370496 + rg w % 4503599627370496) (-1074 + (rg w / 4503599627370496 - 1 : Nat)) else if rg w = 9218868437227405312 then .infinity (sgn w) else .nan (sgn w) (rg w - 9218868437227405312) := by
  unfold Format.read rg sgn
  rfl

/-- A word of a finite number. -/
theorem read_finite (w : Nat) (h : rg w < 9218868437227405312) : ∃ m u, double.read w = .number (sgn w) m (-1074 + (u : Nat)) ∧ m * 2 ^ u = V (rg w) := by
  rw [read_double]
  by_cases h1 : rg w < 4503599627370496
  · rw [if_pos h1]; exact ⟨rg w, 0, by simp, by rw [V_small h1]; simp⟩
  · rw [if_neg h1, if_pos h]; exact ⟨_, _, rfl, by unfold V; rw [if_neg h1]⟩

theorem read_inf (w : Nat) (h : rg w = 9218868437227405312) : double.read w = .infinity (sgn w) := by
  rw [read_double, if_neg (by omega), if_neg (by omega), if_pos h]

theorem read_nan (w : Nat) (h : 9218868437227405312 < rg w) : double.read w = .nan (sgn w) (rg w - 9218868437227405312) := by
  rw [read_double, if_neg (by omega), if_neg (by omega), if_neg (by omega)]

theorem order_finite (x y : Nat) (hx : rg x < 9218868437227405312) (hy : rg y < 9218868437227405312) : double.order x y = some (compare (sg (sgn x) (rg x)) (sg (sgn y) (rg y))) := by
  obtain ⟨m, u, e1, v1⟩ := read_finite x hx
  obtain ⟨n, v, e2, v2⟩ := read_finite y hy
  unfold Format.order
  rw [e1, e2]
  unfold Datum.order
  simp only
  rw [← compare_V, ← v1, ← v2]
  rw [signed_eq, signed_eq]
  congr 1
  by_cases huv : u ≤ v
  · have hb : min (-1074 + (u : Int)) (-1074 + (v : Int)) = -1074 + (u : Int) := by omega
    rw [hb]
    have a1 : (-1074 + (u : Int) - (-1074 + (u : Int))).toNat = 0 := by omega
    have a2 : (-1074 + (v : Int) - (-1074 + (u : Int))).toNat = v - u := by omega
    rw [a1, a2]
    rw [← compare_mul _ _ (2 ^ u) (Nat.two_pow_pos _), ← sg_mul, ← sg_mul]
    rw [Nat.mul_assoc, Nat.mul_assoc, ← Nat.pow_add, ← Nat.pow_add]
    congr 3 <;> congr 2 <;> omega
  · have hb : min (-1074 + (u : Int)) (-1074 + (v : Int)) = -1074 + (v : Int) := by omega
    rw [hb]
    have a1 : (-1074 + (v : Int) - (-1074 + (v : Int))).toNat = 0 := by omega
    have a2 : (-1074 + (u : Int) - (-1074 + (v : Int))).toNat = u - v := by omega
    rw [a1, a2]
    rw [← compare_mul _ _ (2 ^ v) (Nat.two_pow_pos _), ← sg_mul, ← sg_mul]
    rw [Nat.mul_assoc, Nat.mul_assoc, ← Nat.pow_add, ← Nat.pow_add]
    congr 3 <;> congr 2 <;> omega

/-- f - f of a finite f is +0; of another none. -/
theorem sub_self_finite (x : Nat) (hx : rg x < 9218868437227405312) : double.sub x x = some 0 := by
  obtain ⟨m, u, e1, -⟩ := read_finite x hx
  unfold Format.sub
  rw [e1]
  simp only [Datum.opposite, Datum.sum]
  have h : ∀ (s : Bool) (k : Nat), signed s m k + signed (!s) m k = 0 := fun s k => by
    unfold signed; cases s <;> simp <;> omega
  rw [h]
  simp [Format.write, Format.nearest, Format.word]

theorem sub_self_none (x : Nat) (hx : ¬ rg x < 9218868437227405312) : double.sub x x = none := by
  unfold Format.sub
  by_cases h : rg x = 9218868437227405312
  · rw [read_inf x h]; simp [Datum.opposite, Datum.sum]
  · rw [read_nan x (by omega)]; simp [Datum.sum]

theorem order_nan (x y : Nat) (hx : 9218868437227405312 < rg x) : double.order x y = none := by
  unfold Format.order; rw [read_nan x hx]; simp [Datum.order]

theorem order_inf_pos (x y : Nat) (hx : rg x = 9218868437227405312) (hn : sgn x = false) (hy : rg y < 9218868437227405312) : double.order x y = some .gt := by
  obtain ⟨m, u, e1, -⟩ := read_finite y hy
  unfold Format.order; rw [read_inf x hx, e1, hn]; simp [Datum.order]

end Go.Proofs.Ytbmgjbpcijbocaa.Pf
