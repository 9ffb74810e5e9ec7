/- What the bits of a coordinate say in whole numbers: its word, rung and sign, the reference's shifts and masks, and the order of two finite coordinates as the order of their ranks. -/
import Derived.Test.YtbmgjbpcijbocaaFloat
import Derived.Laws.Bits128
import Derived.Laws.BitsAllLaws
import Derived.Laws.Cover2
namespace Go.Proofs.Ytbmgjbpcijbocaa

/-- The word of a coordinate. -/
def wd (b : Int) : Nat := (IntKind.u64.wrap b).toNat

/-- Are the bits of a coordinate finite? -/
def fin (b : Int) : Bool := decide (Pf.rg (wd b) < 9218868437227405312)

/-- The reference's rank, and its zero. -/
def rankF (b : Int) : Int := if b < 0 then -(b + 9223372036854775808) else b
def zeroF (b : Int) : Int := if b = -9223372036854775808 then 0 else b

/-- What way answers: by the order of the two words. -/
def wayF (x y : Nat) : Int := if FloatKind.f64.format.order x y = some .lt then -1 else if FloatKind.f64.format.order x y = some .gt then 1 else 0

theorem wd_eq (b : Int) : wd b = (b % 18446744073709551616).toNat := by unfold wd; rw [IntKind.wrap_u64]

theorem rg_wd (b : Int) (h1 : -9223372036854775808 ≤ b) (h2 : b ≤ 9223372036854775807) : (Pf.rg (wd b) : Int) = if b < 0 then b + 9223372036854775808 else b := by
  rw [wd_eq]; unfold Pf.rg; split <;> omega

theorem sgn_wd (b : Int) (h1 : -9223372036854775808 ≤ b) (h2 : b ≤ 9223372036854775807) : Pf.sgn (wd b) = decide (b < 0) := by
  rw [wd_eq]; unfold Pf.sgn
  by_cases h : b < 0
  · rw [decide_eq_true h]
    have : (b % 18446744073709551616).toNat / 9223372036854775808 % 2 = 1 := by omega
    rw [this]; rfl
  · rw [decide_eq_false h]
    have : (b % 18446744073709551616).toNat / 9223372036854775808 % 2 = 0 := by omega
    rw [this]; rfl

theorem sg_wd (b : Int) (h1 : -9223372036854775808 ≤ b) (h2 : b ≤ 9223372036854775807) : Pf.sg (Pf.sgn (wd b)) (Pf.rg (wd b)) = rankF b := by
  rw [sgn_wd b h1 h2]
  unfold Pf.sg rankF
  have := rg_wd b h1 h2
  by_cases h : b < 0
  · rw [decide_eq_true h, if_pos rfl, this, if_pos h, if_pos h]
  · rw [decide_eq_false h, if_neg (by simp), this, if_neg h, if_neg h]

theorem and_2047 (n : Int) : bits .and .i64 n 2047 = n % 2048 := by
  have h2047 : (BitVec.ofInt 64 2047).toNat = 2 ^ 11 - 1 := by decide
  have key : (BitVec.ofInt 64 n &&& BitVec.ofInt 64 2047).toNat = (n % ((2 ^ 64 : Nat) : Int)).toNat % 2 ^ 11 := by
    rw [BitVec.toNat_and, BitVec.toNat_ofInt, h2047, Nat.and_two_pow_sub_one_eq_mod]
  show IntKind.i64.wrap ((BitVec.ofInt 64 n &&& BitVec.ofInt 64 2047).toNat : Nat) = n % 2048
  rw [key, IntKind.wrap_i64]
  omega

theorem andNot_top (n : Nat) (h : n < 18446744073709551616) : (bits .andNot .u64 (n : Int) 9223372036854775808).toNat = n % 9223372036854775808 := by
  have e : bits .andNot .u64 (n : Int) 9223372036854775808 = ((n &&& (18446744073709551615 - 9223372036854775808) : Nat) : Int) := u64_andNot_nat n 9223372036854775808 h (by omega)
  rw [e]
  have e2 : (18446744073709551615 - 9223372036854775808 : Nat) = 2 ^ 63 - 1 := by decide
  rw [e2, Nat.and_two_pow_sub_one_eq_mod]
  omega

theorem fin_iff (b : Int) : fin b = true ↔ Pf.rg (wd b) < 9218868437227405312 := by unfold fin; exact decide_eq_true_iff

/-- The order of two finite coordinates. -/
theorem order_wd (a b : Int) (ha1 : -9223372036854775808 ≤ a) (ha2 : a ≤ 9223372036854775807) (hb1 : -9223372036854775808 ≤ b) (hb2 : b ≤ 9223372036854775807) (ha : fin a = true) (hb : fin b = true) :
    FloatKind.f64.format.order (wd a) (wd b) = some (compare (rankF a) (rankF b)) := by
  rw [← sg_wd a ha1 ha2, ← sg_wd b hb1 hb2]
  exact Pf.order_finite _ _ ((fin_iff a).mp ha) ((fin_iff b).mp hb)

/-- The order of two ranks, as a number. -/
def cmpI (x y : Int) : Int := if x < y then -1 else if y < x then 1 else 0

theorem wayF_wd (a b : Int) (ha1 : -9223372036854775808 ≤ a) (ha2 : a ≤ 9223372036854775807) (hb1 : -9223372036854775808 ≤ b) (hb2 : b ≤ 9223372036854775807) (ha : fin a = true) (hb : fin b = true) :
    wayF (wd a) (wd b) = cmpI (rankF a) (rankF b) := by
  unfold wayF cmpI
  rw [order_wd a b ha1 ha2 hb1 hb2 ha hb]
  simp only [compare, compareOfLessAndEq]
  by_cases h1 : rankF a < rankF b
  · simp [h1]
  · by_cases h2 : rankF a = rankF b
    · rw [h2]; simp
    · have h3 : rankF b < rankF a := by omega
      simp [h1, h2, h3]

/-- The reference's exponent field. -/
def expF (b : Int) : Int := bits .and .i64 (b / 4503599627370496) 2047

theorem expF_eq (b : Int) (h1 : -9223372036854775808 ≤ b) (h2 : b ≤ 9223372036854775807) : expF b = (Pf.rg (wd b) : Int) / 4503599627370496 := by
  unfold expF
  rw [and_2047, rg_wd b h1 h2]
  split <;> omega

theorem coord_eq (b : Int) (h1 : -9223372036854775808 ≤ b) (h2 : b ≤ 9223372036854775807) : (bits .and .i64 (b / 4503599627370496) 2047 != 2047) = fin b := by
  have e := expF_eq b h1 h2
  unfold expF at e
  rw [e]
  have hr : (Pf.rg (wd b) : Int) < 9223372036854775808 := by unfold Pf.rg; omega
  unfold fin
  by_cases h : Pf.rg (wd b) < 9218868437227405312
  · rw [decide_eq_true h]
    have : ¬ (Pf.rg (wd b) : Int) / 4503599627370496 = 2047 := by omega
    simpa [bne] using this
  · rw [decide_eq_false h]
    have : (Pf.rg (wd b) : Int) / 4503599627370496 = 2047 := by omega
    rw [this]; rfl

/-- Tame, of a rung. -/
def tameR (r : Nat) : Bool := decide (r = 0 ∨ 3931642474694443008 ≤ r ∧ r < 5282722362905591808)

theorem rg_lt (w : Nat) : Pf.rg w < 9223372036854775808 := by unfold Pf.rg; omega

theorem sgn_of_lt {r : Nat} (h : r < 9223372036854775808) : Pf.sgn r = false := by
  unfold Pf.sgn
  have : r / 9223372036854775808 % 2 = 0 := by omega
  rw [this]; rfl
theorem rg_of_lt {r : Nat} (h : r < 9223372036854775808) : Pf.rg r = r := by unfold Pf.rg; omega

/-- The order of a word without sign and a finite constant without sign. -/
theorem order_plain (r c : Nat) (h : r < 9218868437227405312) (hc : c < 9218868437227405312) : FloatKind.f64.format.order r c = some (compare (r : Int) (c : Int)) := by
  have e : Ieee.double.order r c = _ := Pf.order_finite r c (by rw [rg_of_lt (by omega)]; exact h) (by rw [rg_of_lt (by omega)]; exact hc)
  rw [sgn_of_lt (r := r) (by omega), sgn_of_lt (r := c) (by omega), rg_of_lt (r := r) (by omega), rg_of_lt (r := c) (by omega)] at e
  exact e

/-- What Tame's three tests give. -/
def tameT (r : Nat) : Bool := (FloatKind.f64.format.order r 0 == some .eq) || ((FloatKind.f64.format.order r 3931642474694443008 == some .gt || FloatKind.f64.format.order r 3931642474694443008 == some .eq) && FloatKind.f64.format.order r 5282722362905591808 == some .lt)

theorem compare_int (a b : Int) : compare a b = if a < b then .lt else if a = b then .eq else .gt := by
  simp only [compare, compareOfLessAndEq]

/-- The same over variables: no great numeral stands where the kernel could count it. -/
theorem tame_any (r lo hi : Nat) (o : Nat → Option Ordering) (h0 : o 0 = some (compare (r : Int) (0 : Int))) (hl : o lo = some (compare (r : Int) (lo : Int))) (hh : o hi = some (compare (r : Int) (hi : Int))) (hp : 0 < lo) (_hlh : lo < hi) :
    ((o 0 == some .eq) || ((o lo == some .gt || o lo == some .eq) && o hi == some .lt)) = decide (r = 0 ∨ lo ≤ r ∧ r < hi) := by
  rw [h0, hl, hh, compare_int, compare_int, compare_int]
  by_cases a : r = 0
  · rw [decide_eq_true (Or.inl a), if_neg (by omega), if_pos (by omega)]; rfl
  · rw [if_neg (by omega : ¬ (r : Int) < 0), if_neg (by omega : ¬ (r : Int) = 0)]
    by_cases b : lo ≤ r
    · by_cases c : r < hi
      · rw [decide_eq_true (Or.inr ⟨b, c⟩), if_pos (by omega : (r : Int) < hi), if_neg (by omega : ¬ (r : Int) < lo)]
        by_cases d : (r : Int) = lo
        · rw [if_pos d]; rfl
        · rw [if_neg d]; rfl
      · rw [decide_eq_false (by omega), if_neg (by omega : ¬ (r : Int) < hi)]
        by_cases d : (r : Int) = hi
        · rw [if_pos d]; simp
        · rw [if_neg d]; simp
    · rw [decide_eq_false (by omega), if_pos (by omega : (r : Int) < lo)]; simp

theorem tame_none (lo hi : Nat) (o : Nat → Option Ordering) (h0 : o 0 ≠ some .eq) (hh : o hi ≠ some .lt) :
    ((o 0 == some .eq) || ((o lo == some .gt || o lo == some .eq) && o hi == some .lt)) = false := by
  have e0 : (o 0 == some .eq) = false := by simpa using h0
  have e1 : (o hi == some .lt) = false := by simpa using hh
  rw [e0, e1]; simp

theorem tameT_eq (r : Nat) (h : r < 9223372036854775808) : tameT r = tameR r := by
  unfold tameT
  by_cases h1 : r < 9218868437227405312
  · exact tame_any r _ _ (fun c => FloatKind.f64.format.order r c) (order_plain r 0 h1 (by omega)) (order_plain r _ h1 (by omega)) (order_plain r _ h1 (by omega)) (by omega) (by omega)
  · have hR : tameR r = false := by unfold tameR; exact decide_eq_false (by omega)
    rw [hR]
    refine tame_none _ _ (fun c => FloatKind.f64.format.order r c) ?_ ?_
    all_goals
      by_cases h2 : r = 9218868437227405312
      · have g : ∀ c, c < 9218868437227405312 → FloatKind.f64.format.order r c = some .gt := fun c hc =>
          Pf.order_inf_pos r c (by rw [rg_of_lt h]; exact h2) (sgn_of_lt h) (by rw [rg_of_lt (by omega)]; exact hc)
        show FloatKind.f64.format.order r _ ≠ _
        rw [g _ (by omega)]; simp
      · have g : ∀ c, FloatKind.f64.format.order r c = none := fun c => Pf.order_nan r c (by rw [rg_of_lt h]; omega)
        show FloatKind.f64.format.order r _ ≠ _
        rw [g]; simp

/-- The reference's Tame. -/
theorem tame_ref (b : Int) (h1 : -9223372036854775808 ≤ b) (h2 : b ≤ 9223372036854775807) : (zeroF b == 0 || (decide (873 ≤ expF b) && decide (expF b < 1173))) = tameR (Pf.rg (wd b)) := by
  rw [expF_eq b h1 h2]
  have hz : (zeroF b == 0) = decide (Pf.rg (wd b) = 0) := by
    have hr := rg_wd b h1 h2
    unfold zeroF
    by_cases e : b = -9223372036854775808
    · rw [if_pos e]; subst e
      have : Pf.rg (wd (-9223372036854775808)) = 0 := by simp at hr; omega
      rw [this]; rfl
    · rw [if_neg e]
      by_cases e0 : b = 0
      · subst e0
        have : Pf.rg (wd 0) = 0 := by simp at hr; omega
        rw [this]; rfl
      · have : ¬ Pf.rg (wd b) = 0 := by split at hr <;> omega
        rw [decide_eq_false this]
        simpa using e0
  rw [hz]
  unfold tameR
  rw [← Bool.decide_and, ← Bool.decide_or]
  congr 1
  rw [eq_iff_iff]
  omega

end Go.Proofs.Ytbmgjbpcijbocaa
