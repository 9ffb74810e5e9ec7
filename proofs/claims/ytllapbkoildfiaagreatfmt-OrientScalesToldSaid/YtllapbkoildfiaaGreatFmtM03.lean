/- Words of binary64 as ints, and what their fields say. -/
import Derived.Test.YtllapbkoildfiaaGreatFmtM01
import Derived.Laws.Bits128
import Derived.Laws.BitsAllLaws
import Derived.Laws.Cover2
set_option linter.all false
namespace Go.Proofs.YtllapbkoildfiaaGreatFmt
section
def iw (n : Nat) : Int := if n < 9223372036854775808 then (n : Int) else (n : Int) - 18446744073709551616
theorem iw_lo {n : Nat} (_h : n < 18446744073709551616) : -9223372036854775808 ≤ iw n := by unfold iw; split <;> omega
theorem iw_hi {n : Nat} (h : n < 18446744073709551616) : iw n ≤ 9223372036854775807 := by unfold iw; split <;> omega
theorem iw_neg {n : Nat} (h : n < 18446744073709551616) : iw n < 0 ↔ n / 9223372036854775808 % 2 = 1 := by unfold iw; split <;> omega
theorem iw_inj {m n : Nat} (hm : m < 18446744073709551616) (hn : n < 18446744073709551616) (h : iw m = iw n) : m = n := by unfold iw at h; split at h <;> split at h <;> omega
theorem wrap_iw {n : Nat} (h : n < 18446744073709551616) : IntKind.u64.wrap (iw n) = (n : Int) := by
  rw [IntKind.wrap_u64]; unfold iw; split <;> omega
theorem iw_wrap {n : Nat} (h : n < 18446744073709551616) : IntKind.i64.wrap (n : Int) = iw n := by
  rw [IntKind.wrap_i64]; unfold iw; split <;> omega
theorem of_int {b : Int} (h1 : -9223372036854775808 ≤ b) (h2 : b ≤ 9223372036854775807) : ∃ n, n < 18446744073709551616 ∧ b = iw n := by
  refine ⟨(b % 18446744073709551616).toNat, by omega, ?_⟩
  unfold iw
  split <;> omega
theorem band_low (n : Int) (k : Nat) (hk : k < 64) : bits .and .i64 n ((2 ^ k - 1 : Nat) : Int) = n % ((2 ^ k : Nat) : Int) := by
  have p : 2 ^ k ≤ 2 ^ 63 := Nat.pow_le_pow_right (by omega) (by omega)
  have p0 := Nat.two_pow_pos k
  have d : (2 ^ k) ∣ (2 ^ 64 : Nat) := Nat.pow_dvd_pow 2 (by omega)
  have hm : (BitVec.ofInt 64 ((2 ^ k - 1 : Nat) : Int)).toNat = 2 ^ k - 1 := by
    rw [BitVec.toNat_ofInt]
    have e : ((2 ^ 64 : Nat) : Int) = 18446744073709551616 := by decide
    have e2 : (2 : Nat) ^ 63 = 9223372036854775808 := by decide
    rw [e]
    rw [e2] at p
    generalize 2 ^ k = K at *
    omega
  have key : (BitVec.ofInt 64 n &&& BitVec.ofInt 64 ((2 ^ k - 1 : Nat) : Int)).toNat = (n % ((2 ^ 64 : Nat) : Int)).toNat % 2 ^ k := by
    rw [BitVec.toNat_and, BitVec.toNat_ofInt, hm, Nat.and_two_pow_sub_one_eq_mod]
  show IntKind.i64.wrap ((BitVec.ofInt 64 n &&& BitVec.ofInt 64 ((2 ^ k - 1 : Nat) : Int)).toNat : Nat) = _
  rw [key, IntKind.wrap_i64]
  have h1 : n % ((2 ^ 64 : Nat) : Int) % ((2 ^ k : Nat) : Int) = n % ((2 ^ k : Nat) : Int) := Int.emod_emod_of_dvd _ (Int.natCast_dvd_natCast.2 d)
  have h2 : 0 ≤ n % ((2 ^ 64 : Nat) : Int) := Int.emod_nonneg _ (by decide)
  have h3 : (((n % ((2 ^ 64 : Nat) : Int)).toNat % 2 ^ k : Nat) : Int) = n % ((2 ^ k : Nat) : Int) := by
    rw [Int.natCast_emod, Int.toNat_of_nonneg h2, h1]
  rw [h3]
  have e2 : (2 : Nat) ^ 63 = 9223372036854775808 := by decide
  rw [e2] at p
  have h4 := Int.emod_nonneg n (b := ((2 ^ k : Nat) : Int)) (by omega)
  have h5 := Int.emod_lt_of_pos n (b := ((2 ^ k : Nat) : Int)) (by omega)
  omega
theorem and_2047 (n : Int) : bits .and .i64 n 2047 = n % 2048 := band_low n 11 (by omega)
theorem and_52 (n : Int) : bits .and .i64 n 4503599627370495 = n % 4503599627370496 := band_low n 52 (by omega)
def ef (n : Nat) : Nat := n / 4503599627370496 % 2048
def ff (n : Nat) : Nat := n % 4503599627370496
theorem ef_iw {n : Nat} (h : n < 18446744073709551616) : bits .and .i64 (iw n / 4503599627370496) 2047 = (ef n : Int) := by
  rw [and_2047]; unfold iw ef; split <;> omega
theorem ff_iw {n : Nat} (h : n < 18446744073709551616) : bits .and .i64 (iw n) 4503599627370495 = (ff n : Int) := by
  rw [and_52]; unfold iw ff; split <;> omega
def cls (n : Nat) : Int := if ef n = 2047 then (if ff n = 0 then 3 else 4) else if ef n = 0 then (if ff n = 0 then 0 else 1) else 2
def opp (n : Nat) : Nat := if n < 9223372036854775808 then n + 9223372036854775808 else n - 9223372036854775808
theorem opp_lt {n : Nat} (h : n < 18446744073709551616) : opp n < 18446744073709551616 := by unfold opp; split <;> omega
theorem opp_opp {n : Nat} (h : n < 18446744073709551616) : opp (opp n) = n := by unfold opp; split <;> split <;> omega
theorem opp_rung {n : Nat} (h : n < 18446744073709551616) : opp n % 9223372036854775808 = n % 9223372036854775808 := by unfold opp; split <;> omega
theorem opp_sign {n : Nat} (h : n < 18446744073709551616) : opp n / 9223372036854775808 % 2 = 1 - n / 9223372036854775808 % 2 := by unfold opp; split <;> omega
theorem Fin64.opp {n : Nat} (h : Fin64 n) : Fin64 (opp n) := ⟨opp_lt h.1, by rw [opp_rung h.1]; exact h.2⟩
theorem fv_opp {n : Nat} (h : n < 18446744073709551616) : fv (opp n) = -fv n := by
  unfold fv
  rw [opp_rung h, opp_sign h]
  split <;> split <;> omega
theorem Fin64.iff {n : Nat} (h : n < 18446744073709551616) : Fin64 n ↔ ef n ≠ 2047 := by
  unfold Fin64 ef
  constructor
  · rintro ⟨h1, h2⟩; omega
  · intro g; exact ⟨h, by omega⟩
theorem cls_fin {n : Nat} (h : Fin64 n) : cls n < 3 := by
  have := (Fin64.iff h.1).1 h
  unfold cls
  rw [if_neg this]
  split
  · split <;> omega
  · omega
theorem fin_cls {n : Nat} (h : n < 18446744073709551616) (hc : cls n < 3) : Fin64 n := by
  refine (Fin64.iff h).2 fun e => ?_
  unfold cls at hc
  rw [if_pos e] at hc
  split at hc <;> omega
theorem mg_zero {r : Nat} (h : mg r = 0) : r = 0 := by
  unfold mg at h
  split at h
  · exact h
  · have := Nat.two_pow_pos (r / 4503599627370496 - 1)
    rcases Nat.mul_eq_zero.1 h with g | g <;> omega
theorem fv_zero {n : Nat} : fv n = 0 ↔ n % 9223372036854775808 = 0 := by
  constructor
  · intro h
    refine mg_zero ?_
    unfold fv at h
    split at h <;> omega
  · intro h
    unfold fv
    rw [h, mg_small (by omega)]
    split <;> rfl
theorem cls_zero {n : Nat} (h : Fin64 n) : cls n = 0 ↔ fv n = 0 := by
  rw [fv_zero]
  have := (Fin64.iff h.1).1 h
  unfold cls
  rw [if_neg this]
  unfold ef ff at *
  split
  · split <;> omega
  · constructor <;> intro g <;> omega
theorem mg_mono {r s : Nat} (h : r < s) : mg r < mg s := by
  have key : ∀ n, ∃ L c, n = L * 4503599627370496 + c ∧ (L = 0 ∧ c < 9007199254740992 ∨ 4503599627370496 ≤ c ∧ c < 9007199254740992) := fun n => by
    by_cases g : n < 9007199254740992
    · exact ⟨0, n, by omega, .inl ⟨rfl, g⟩⟩
    · exact ⟨n / 4503599627370496 - 1, n % 4503599627370496 + 4503599627370496, by omega, .inr (by omega)⟩
  obtain ⟨L, c, rfl, h1⟩ := key r
  obtain ⟨K, d, rfl, h2⟩ := key s
  rw [mg_at (by omega), mg_at (by omega)]
  by_cases e : L = K
  · subst e
    exact Nat.mul_lt_mul_of_pos_right (by omega) (Nat.two_pow_pos _)
  · have hlt : L + 1 ≤ K := by omega
    have a1 := pow_split hlt
    rw [Nat.pow_succ] at a1
    have a2 : 2 ^ L * 2 ≤ 2 ^ K := by rw [a1]; exact Nat.le_mul_of_pos_left _ (Nat.two_pow_pos _)
    have a3 : c * 2 ^ L < 9007199254740992 * 2 ^ L := Nat.mul_lt_mul_of_pos_right (by omega) (Nat.two_pow_pos _)
    have a4 : 4503599627370496 * 2 ^ K ≤ d * 2 ^ K := Nat.mul_le_mul_right _ (by omega)
    omega
theorem mg_le {r s : Nat} (h : r ≤ s) : mg r ≤ mg s := by
  rcases Nat.eq_or_lt_of_le h with rfl | h
  · exact Nat.le_refl _
  · exact Nat.le_of_lt (mg_mono h)
theorem mg_inj {r s : Nat} (h : mg r = mg s) : r = s := by
  rcases Nat.lt_trichotomy r s with g | g | g
  · have := mg_mono g; omega
  · exact g
  · have := mg_mono g; omega
theorem fv_abs (n : Nat) : (fv n).natAbs = mg (n % 9223372036854775808) := by unfold fv; split <;> omega
theorem fv_inj {m n : Nat} (hm : m < 18446744073709551616) (hn : n < 18446744073709551616) (h : fv m = fv n) (h0 : fv m ≠ 0) : m = n := by
  have e : m % 9223372036854775808 = n % 9223372036854775808 := mg_inj (by rw [← fv_abs, ← fv_abs, h])
  have s : m / 9223372036854775808 % 2 = n / 9223372036854775808 % 2 := by
    have a := @mg_zero (m % 9223372036854775808)
    unfold fv at h h0
    rw [e] at *
    split at h <;> split at h <;> omega
  omega
theorem fv_neg {n : Nat} : fv n < 0 ↔ n / 9223372036854775808 % 2 = 1 ∧ fv n ≠ 0 := by
  constructor
  · intro h
    refine ⟨?_, by omega⟩
    unfold fv at h
    split at h
    · assumption
    · omega
  · rintro ⟨h, g⟩
    unfold fv at *
    rw [if_pos h] at *
    omega
end
end Go.Proofs.YtllapbkoildfiaaGreatFmt
