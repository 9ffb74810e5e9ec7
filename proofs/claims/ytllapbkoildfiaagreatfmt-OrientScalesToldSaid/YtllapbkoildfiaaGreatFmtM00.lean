/- The plain law of floats: rounding of whole numbers to 53 binary digits, ties to even · The plain law of floats: rounding of whole numbers, with signs; sums and what they lose · The plain law of floats: a sum and what it lost are just the sum (in six steps, and in three) · The plain law of floats: a float cut in two halves; a product and what it lost are just the product. -/
import Ieee.Arith
set_option linter.all false
namespace Go.Proofs.YtllapbkoildfiaaGreatFmt
section
def upN (q r g : Nat) : Nat := if g < 2 * r ∨ (g = 2 * r ∧ q % 2 = 1) then q + 1 else q
def rnN (n : Nat) : Nat := upN (n / 2 ^ (n.log2 - 52)) (n % 2 ^ (n.log2 - 52)) (2 ^ (n.log2 - 52)) * 2 ^ (n.log2 - 52)
theorem upN_le (q r g : Nat) : q ≤ upN q r g ∧ upN q r g ≤ q + 1 := by unfold upN; split <;> omega
theorem upN_zero (q g : Nat) (h : 0 < g) : upN q 0 g = q := by unfold upN; rw [if_neg (by omega)]
theorem log2_at {n L : Nat} (h1 : 4503599627370496 * 2 ^ L ≤ n) (h2 : n < 9007199254740992 * 2 ^ L) : n.log2 = 52 + L := by
  have p : 0 < 2 ^ L := Nat.two_pow_pos _
  refine (Nat.log2_eq_iff (by omega)).2 ⟨?_, ?_⟩
  · rw [Nat.pow_add]; exact h1
  · rw [show 52 + L + 1 = 53 + L by omega, Nat.pow_add]; exact h2
theorem rnN_at {n L : Nat} (h1 : 4503599627370496 * 2 ^ L ≤ n) (h2 : n < 9007199254740992 * 2 ^ L) : rnN n = upN (n / 2 ^ L) (n % 2 ^ L) (2 ^ L) * 2 ^ L := by
  unfold rnN
  rw [log2_at h1 h2, show 52 + L - 52 = L by omega]
theorem log2_small {n : Nat} (h : n < 9007199254740992) : n.log2 ≤ 52 := by
  rcases Nat.eq_zero_or_pos n with rfl | hp
  · decide
  · have := (Nat.log2_lt (k := 53) (by omega)).2 h
    omega
theorem rnN_small {n : Nat} (h : n < 9007199254740992) : rnN n = n := by
  unfold rnN
  have := log2_small h
  rw [show n.log2 - 52 = 0 by omega]
  simp [Nat.mod_one, upN]
theorem rnN_zero : rnN 0 = 0 := rnN_small (by omega)
theorem at_log2 {n : Nat} (h : 4503599627370496 ≤ n) : ∃ L, 4503599627370496 * 2 ^ L ≤ n ∧ n < 9007199254740992 * 2 ^ L := by
  have h0 : n ≠ 0 := by omega
  have hl : 52 ≤ n.log2 := (Nat.le_log2 h0).2 h
  refine ⟨n.log2 - 52, ?_, ?_⟩
  · have := Nat.log2_self_le h0
    rw [show n.log2 = 52 + (n.log2 - 52) by omega, Nat.pow_add] at this
    exact this
  · have := @Nat.lt_log2_self n
    rw [show n.log2 + 1 = 53 + (n.log2 - 52) by omega, Nat.pow_add] at this
    exact this
theorem rnN_spec {n L : Nat} (h1 : 4503599627370496 * 2 ^ L ≤ n) (h2 : n < 9007199254740992 * 2 ^ L) :
    ∃ c, rnN n = c * 2 ^ L ∧ 4503599627370496 ≤ c ∧ c ≤ 9007199254740992 ∧ 2 * (c * 2 ^ L) ≤ 2 * n + 2 ^ L ∧ 2 * n ≤ 2 * (c * 2 ^ L) + 2 ^ L := by
  refine ⟨_, rnN_at h1 h2, ?_⟩
  have p : 0 < 2 ^ L := Nat.two_pow_pos _
  generalize 2 ^ L = g at *
  have hd := Nat.div_add_mod n g
  have hr := Nat.mod_lt n p
  have q1 : 4503599627370496 ≤ n / g := (Nat.le_div_iff_mul_le p).2 h1
  have q2 : n / g < 9007199254740992 := (Nat.div_lt_iff_lt_mul p).2 h2
  generalize n / g = q at *
  generalize n % g = r at *
  rw [Nat.mul_comm] at hd
  unfold upN
  split
  · rw [Nat.add_mul, Nat.one_mul]
    omega
  · omega
theorem pow_mono {a b : Nat} (h : a ≤ b) : 2 ^ a ≤ 2 ^ b := Nat.pow_le_pow_right (by omega) h
theorem pow_split {a b : Nat} (h : a ≤ b) : 2 ^ b = 2 ^ (b - a) * 2 ^ a := by rw [← Nat.pow_add]; congr 1; omega
def RepN (n : Nat) : Prop := ∃ m k : Nat, n = m * 2 ^ k ∧ m ≤ 9007199254740992
theorem rnN_mul {n L : Nat} (h1 : 4503599627370496 * 2 ^ L ≤ n) (h2 : n < 9007199254740992 * 2 ^ L) (hd : 2 ^ L ∣ n) : rnN n = n := by
  rw [rnN_at h1 h2, Nat.mod_eq_zero_of_dvd hd, upN_zero _ _ (Nat.two_pow_pos _), Nat.div_mul_cancel hd]
theorem RepN.dvd {n L : Nat} (h : RepN n) (h1 : 4503599627370496 * 2 ^ L ≤ n) : 2 ^ L ∣ n := by
  obtain ⟨m, k, rfl, hm⟩ := h
  by_cases hk : L ≤ k
  · exact Nat.dvd_trans (Nat.pow_dvd_pow 2 hk) (Nat.dvd_mul_left _ _)
  · have p : 0 < 2 ^ k := Nat.two_pow_pos _
    have h2 : 2 ^ L = 2 ^ (L - k) * 2 ^ k := pow_split (by omega)
    have h3 : 2 ^ (L - k) = 2 * 2 ^ (L - k - 1) := by rw [← Nat.pow_succ']; congr 1; omega
    have h4 : 0 < 2 ^ (L - k - 1) := Nat.two_pow_pos _
    rw [h2, ← Nat.mul_assoc] at h1
    have h5 := Nat.le_of_mul_le_mul_right h1 p
    -- m = 2^53 and L = k + 1
    have h6 : m = 9007199254740992 ∧ 2 ^ (L - k - 1) = 1 := by omega
    obtain ⟨rfl, h7⟩ := h6
    rw [h2, h3, h7]
    exact ⟨4503599627370496, by omega⟩
theorem rnN_rep {n : Nat} (h : RepN n) : rnN n = n := by
  by_cases hn : n < 4503599627370496
  · exact rnN_small (by omega)
  · obtain ⟨L, h1, h2⟩ := at_log2 (n := n) (by omega)
    exact rnN_mul h1 h2 (h.dvd h1)
theorem repN_rn (n : Nat) : RepN (rnN n) := by
  by_cases hn : n < 4503599627370496
  · exact ⟨n, 0, by rw [rnN_small (by omega)]; omega, by omega⟩
  · obtain ⟨L, h1, h2⟩ := at_log2 (n := n) (by omega)
    obtain ⟨c, hc, h3, h4, -⟩ := rnN_spec h1 h2
    exact ⟨c, L, hc, h4⟩
theorem rnN_mono {m n : Nat} (h : m ≤ n) : rnN m ≤ rnN n := by
  by_cases hn : n < 4503599627370496
  · rw [rnN_small (n := n) (by omega), rnN_small (n := m) (by omega)]; exact h
  · obtain ⟨K, k1, k2⟩ := at_log2 (n := n) (by omega)
    obtain ⟨d, d1, d2, d3, -, -⟩ := rnN_spec k1 k2
    have pK : 0 < 2 ^ K := Nat.two_pow_pos _
    by_cases hm : m < 4503599627370496
    · rw [rnN_small (n := m) (by omega), d1]
      have : 4503599627370496 * 1 ≤ d * 2 ^ K := Nat.mul_le_mul d2 pK
      omega
    · obtain ⟨L, l1, l2⟩ := at_log2 (n := m) (by omega)
      obtain ⟨c, c1, c2, c3, -, -⟩ := rnN_spec l1 l2
      by_cases hLK : L = K
      · subst hLK
        rw [rnN_at l1 l2, rnN_at k1 k2]
        refine Nat.mul_le_mul_right _ ?_
        generalize 2 ^ L = g at *
        have e1 := Nat.div_add_mod m g
        have e2 := Nat.div_add_mod n g
        have e3 := Nat.mod_lt m pK
        have e4 : m / g ≤ n / g := Nat.div_le_div_right h
        generalize m / g = a at *
        generalize n / g = b at *
        generalize m % g = r at *
        generalize n % g = s at *
        by_cases hab : a = b
        · subst hab
          unfold upN
          split <;> split <;> omega
        · have := (upN_le a r g).2
          have := (upN_le b s g).1
          omega
      · have hlt : L < K := by
          rcases Nat.lt_or_ge K L with g | g
          · exfalso
            have := pow_split (a := K + 1) (b := L) (by omega)
            rw [Nat.pow_succ] at this
            have : 2 ^ K * 2 ≤ 2 ^ L := by rw [this]; exact Nat.le_mul_of_pos_left _ (Nat.two_pow_pos _)
            omega
          · omega
        rw [c1, d1]
        have a1 := pow_split (a := L + 1) (b := K) (by omega)
        rw [Nat.pow_succ] at a1
        have a2 : 2 ^ L * 2 ≤ 2 ^ K := by rw [a1]; exact Nat.le_mul_of_pos_left _ (Nat.two_pow_pos _)
        have a3 : c * 2 ^ L ≤ 9007199254740992 * 2 ^ L := Nat.mul_le_mul_right _ c3
        have a4 : 4503599627370496 * 2 ^ K ≤ d * 2 ^ K := Nat.mul_le_mul_right _ d2
        omega
theorem rnN_shift (n k : Nat) : rnN (n * 2 ^ k) = rnN n * 2 ^ k := by
  by_cases hn : n < 4503599627370496
  · rw [rnN_small (n := n) (by omega)]
    exact rnN_rep ⟨n, k, rfl, by omega⟩
  · obtain ⟨L, h1, h2⟩ := at_log2 (n := n) (by omega)
    have p : 0 < 2 ^ k := Nat.two_pow_pos _
    have g1 : 4503599627370496 * 2 ^ (L + k) ≤ n * 2 ^ k := by rw [Nat.pow_add, ← Nat.mul_assoc]; exact Nat.mul_le_mul_right _ h1
    have g2 : n * 2 ^ k < 9007199254740992 * 2 ^ (L + k) := by rw [Nat.pow_add, ← Nat.mul_assoc]; exact Nat.mul_lt_mul_of_pos_right h2 p
    rw [rnN_at g1 g2, rnN_at h1 h2, Nat.pow_add, Nat.mul_div_mul_right _ _ p, Nat.mul_mod_mul_right, ← Nat.mul_assoc]
    congr 2
    unfold upN
    have e1 : 2 ^ L * 2 ^ k < 2 * (n % 2 ^ L * 2 ^ k) ↔ 2 ^ L < 2 * (n % 2 ^ L) := by
      rw [← Nat.mul_assoc]; exact ⟨fun h => Nat.lt_of_mul_lt_mul_right h, fun h => Nat.mul_lt_mul_of_pos_right h p⟩
    have e2 : 2 ^ L * 2 ^ k = 2 * (n % 2 ^ L * 2 ^ k) ↔ 2 ^ L = 2 * (n % 2 ^ L) := by
      rw [← Nat.mul_assoc]; exact ⟨fun h => Nat.eq_of_mul_eq_mul_right p h, fun h => congrArg (fun t => t * 2 ^ k) h⟩
    simp only [e1, e2]
theorem rnN_err {n k : Nat} (h : n ≤ 9007199254740992 * 2 ^ k) : 2 * rnN n ≤ 2 * n + 2 ^ k ∧ 2 * n ≤ 2 * rnN n + 2 ^ k := by
  have p : 0 < 2 ^ k := Nat.two_pow_pos _
  by_cases hn : n < 9007199254740992
  · rw [rnN_small hn]; omega
  · obtain ⟨L, h1, h2⟩ := at_log2 (n := n) (by omega)
    by_cases hL : L ≤ k
    · obtain ⟨c, c1, c2, c3, c4, c5⟩ := rnN_spec h1 h2
      have := pow_mono hL
      rw [c1]; omega
    · have a1 := pow_split (a := k + 1) (b := L) (by omega)
      rw [Nat.pow_succ] at a1
      have a2 : 2 ^ k * 2 ≤ 2 ^ L := by rw [a1]; exact Nat.le_mul_of_pos_left _ (Nat.two_pow_pos _)
      have : n = 9007199254740992 * 2 ^ k := by omega
      rw [rnN_rep ⟨_, k, this, by omega⟩]; omega
theorem rnN_dvd_big {n k : Nat} (h : 4503599627370496 * 2 ^ k ≤ n) : 2 ^ k ∣ rnN n := by
  have p : 0 < 2 ^ k := Nat.two_pow_pos _
  obtain ⟨L, h1, h2⟩ := at_log2 (n := n) (by omega)
  obtain ⟨c, c1, -⟩ := rnN_spec h1 h2
  have hk : k ≤ L := by
    rcases Nat.lt_or_ge L k with g | g
    · exfalso
      have a1 := pow_split (a := L + 1) (b := k) (by omega)
      rw [Nat.pow_succ] at a1
      have a2 : 2 ^ L * 2 ≤ 2 ^ k := by rw [a1]; exact Nat.le_mul_of_pos_left _ (Nat.two_pow_pos _)
      omega
    · exact g
  rw [c1]
  exact Nat.dvd_trans (Nat.pow_dvd_pow 2 hk) (Nat.dvd_mul_left _ _)
theorem rnN_dvd {n k : Nat} (h : 2 ^ k ∣ n) : 2 ^ k ∣ rnN n := by
  by_cases hn : n < 9007199254740992
  · rw [rnN_small hn]; exact h
  · obtain ⟨L, h1, h2⟩ := at_log2 (n := n) (by omega)
    by_cases hL : k ≤ L
    · obtain ⟨c, c1, -⟩ := rnN_spec h1 h2
      rw [c1]
      exact Nat.dvd_trans (Nat.pow_dvd_pow 2 hL) (Nat.dvd_mul_left _ _)
    · rw [rnN_mul h1 h2 (Nat.dvd_trans (Nat.pow_dvd_pow 2 (by omega)) h)]; exact h
theorem rnN_rel (n : Nat) : 9007199254740992 * rnN n ≤ 9007199254740993 * n ∧ 9007199254740992 * n ≤ 9007199254740992 * rnN n + n ∧
    9007199254740992 * rnN n ≤ 9007199254740992 * n + rnN n ∧ 9007199254740992 * n ≤ 9007199254740993 * rnN n := by
  by_cases hn : n < 9007199254740992
  · rw [rnN_small hn]; omega
  · obtain ⟨L, h1, h2⟩ := at_log2 (n := n) (by omega)
    obtain ⟨c, c1, c2, c3, c4, c5⟩ := rnN_spec h1 h2
    have : 4503599627370496 * 2 ^ L ≤ c * 2 ^ L := Nat.mul_le_mul_right _ c2
    rw [c1]
    generalize c * 2 ^ L = x at *
    omega
theorem rnN_near {n y : Nat} (hy : RepN y) : (y ≤ n → rnN n + y ≤ 2 * n) ∧ (n ≤ y → 2 * n ≤ rnN n + y) := by
  by_cases hn : n < 9007199254740992
  · rw [rnN_small hn]; omega
  · obtain ⟨L, h1, h2⟩ := at_log2 (n := n) (by omega)
    obtain ⟨c, c1, c2, c3, c4, c5⟩ := rnN_spec h1 h2
    have p : 0 < 2 ^ L := Nat.two_pow_pos _
    have hd : 4503599627370496 * 2 ^ L ≤ y → 2 ^ L ∣ y := hy.dvd
    rw [c1]
    generalize 2 ^ L = g at *
    constructor
    · intro hyn
      by_cases hc : c * g ≤ n
      · omega
      · have hy1 : y + g ≤ c * g := by
          by_cases h : 4503599627370496 * g ≤ y
          · obtain ⟨t, rfl⟩ := hd h
            rw [Nat.mul_comm g t] at *
            have : t < c := Nat.lt_of_mul_lt_mul_right (a := g) (by omega)
            have := Nat.mul_le_mul_right g this
            rw [Nat.succ_mul] at this
            omega
          · have : 4503599627370496 < c := Nat.lt_of_mul_lt_mul_right (a := g) (by omega)
            have := Nat.mul_le_mul_right g this
            rw [Nat.succ_mul] at this
            omega
        omega
    · intro hyn
      by_cases hc : n ≤ c * g
      · omega
      · have hy1 : c * g + g ≤ y := by
          obtain ⟨t, rfl⟩ := hd (by omega)
          rw [Nat.mul_comm g t] at *
          have : c < t := Nat.lt_of_mul_lt_mul_right (a := g) (by omega)
          have := Nat.mul_le_mul_right g this
          rw [Nat.succ_mul] at this
          omega
        omega
end
section
def rn (z : Int) : Int := if z < 0 then -((rnN z.natAbs : Nat) : Int) else ((rnN z.natAbs : Nat) : Int)
def Rep (z : Int) : Prop := RepN z.natAbs
theorem rn_nat (n : Nat) : rn (n : Int) = (rnN n : Int) := by unfold rn; rw [if_neg (by omega), Int.natAbs_natCast]
theorem rn_zero : rn 0 = 0 := by rw [show (0 : Int) = ((0 : Nat) : Int) from rfl, rn_nat, rnN_zero]
theorem rn_neg (z : Int) : rn (-z) = -rn z := by
  unfold rn
  rw [Int.natAbs_neg]
  by_cases h : z < 0
  · rw [if_neg (by omega), if_pos h]; omega
  · by_cases h0 : z = 0
    · subst h0; rfl
    · rw [if_pos (by omega), if_neg h]
theorem rn_abs (z : Int) : (rn z).natAbs = rnN z.natAbs := by unfold rn; split <;> omega
theorem sign_cases (z : Int) : ∃ n : Nat, z = n ∨ z = -(n : Int) := ⟨z.natAbs, by omega⟩
theorem Rep.neg {z : Int} (h : Rep z) : Rep (-z) := by unfold Rep; rw [Int.natAbs_neg]; exact h
theorem Rep.zero : Rep 0 := ⟨0, 0, rfl, by omega⟩
theorem Rep.mk {z m : Int} {k : Nat} (h : z = m * 2 ^ k) (h1 : -9007199254740992 ≤ m) (h2 : m ≤ 9007199254740992) : Rep z := by
  refine ⟨m.natAbs, k, ?_, by omega⟩
  rw [h, Int.natAbs_mul, Int.natAbs_pow]
  rfl
theorem Rep.small {z : Int} (h1 : -9007199254740992 ≤ z) (h2 : z ≤ 9007199254740992) : Rep z := Rep.mk (k := 0) (by omega) h1 h2
theorem Rep.get {z : Int} (h : Rep z) : ∃ (m : Int) (k : Nat), z = m * 2 ^ k ∧ -9007199254740992 ≤ m ∧ m ≤ 9007199254740992 := by
  obtain ⟨m, k, h1, h2⟩ := h
  by_cases hz : z < 0
  · refine ⟨-(m : Int), k, ?_, by omega, by omega⟩
    have : z = -((m * 2 ^ k : Nat) : Int) := by omega
    rw [this, Int.natCast_mul, Int.natCast_pow, Int.neg_mul]; rfl
  · refine ⟨(m : Int), k, ?_, by omega, by omega⟩
    have : z = ((m * 2 ^ k : Nat) : Int) := by omega
    rw [this, Int.natCast_mul, Int.natCast_pow]; rfl
theorem rn_rep {z : Int} (h : Rep z) : rn z = z := by
  unfold rn
  rw [rnN_rep h]
  split <;> omega
theorem rep_rn (z : Int) : Rep (rn z) := by unfold Rep; rw [rn_abs]; exact repN_rn _
theorem rn_mono {x y : Int} (h : x ≤ y) : rn x ≤ rn y := by
  unfold rn
  split <;> split
  · have := rnN_mono (m := y.natAbs) (n := x.natAbs) (by omega); omega
  · omega
  · omega
  · have := rnN_mono (m := x.natAbs) (n := y.natAbs) (by omega); omega
theorem rn_shift (z : Int) (k : Nat) : rn (z * 2 ^ k) = rn z * 2 ^ k := by
  have e : (2 : Int) ^ k = ((2 ^ k : Nat) : Int) := by rw [Int.natCast_pow]; rfl
  have p : (0 : Int) < 2 ^ k := by rw [e]; exact_mod_cast Nat.two_pow_pos k
  have a : (z * 2 ^ k).natAbs = z.natAbs * 2 ^ k := by rw [Int.natAbs_mul, e, Int.natAbs_natCast]
  unfold rn
  rw [a, rnN_shift, Int.natCast_mul, ← e]
  by_cases h : z < 0
  · rw [if_pos h, if_pos (Int.mul_neg_of_neg_of_pos h p), Int.neg_mul]
  · rw [if_neg h, if_neg (by have := Int.mul_nonneg (a := z) (b := 2 ^ k) (by omega) (by omega); omega)]
theorem rn_sign_pos {z : Int} (h : 0 < z) : 0 < rn z := by
  have := rn_mono (x := 1) (y := z) h
  rw [rn_rep (Rep.small (by omega) (by omega))] at this
  omega
theorem rn_sign_neg {z : Int} (h : z < 0) : rn z < 0 := by
  have := rn_sign_pos (z := -z) (by omega)
  rw [rn_neg] at this
  omega
theorem rn_err {z : Int} {k : Nat} (h1 : z ≤ 9007199254740992 * 2 ^ k) (h2 : -(9007199254740992 * 2 ^ k) ≤ z) : 2 * (rn z - z) ≤ 2 ^ k ∧ 2 * (z - rn z) ≤ 2 ^ k := by
  have e : (2 : Int) ^ k = ((2 ^ k : Nat) : Int) := by rw [Int.natCast_pow]; rfl
  rw [e] at h1 h2 ⊢
  clear e
  have hk := @rnN_err z.natAbs k
  generalize 2 ^ k = P at *
  have := hk (by omega)
  unfold rn
  split <;> omega
theorem rn_dvd_big {z : Int} {k : Nat} (h : 4503599627370496 * 2 ^ k ≤ z ∨ z ≤ -(4503599627370496 * 2 ^ k)) : (2 : Int) ^ k ∣ rn z := by
  have e : (2 : Int) ^ k = ((2 ^ k : Nat) : Int) := by rw [Int.natCast_pow]; rfl
  rw [e] at h ⊢
  clear e
  have hk := @rnN_dvd_big z.natAbs k
  generalize 2 ^ k = P at *
  have := hk (by omega)
  rw [← rn_abs] at this
  exact Int.ofNat_dvd_left.2 this
theorem rn_dvd {z : Int} {k : Nat} (h : (2 : Int) ^ k ∣ z) : (2 : Int) ^ k ∣ rn z := by
  have e : (2 : Int) ^ k = ((2 ^ k : Nat) : Int) := by rw [Int.natCast_pow]; rfl
  rw [e] at h ⊢
  have := rnN_dvd (n := z.natAbs) (k := k) (Int.ofNat_dvd_left.1 h)
  rw [← rn_abs] at this
  exact Int.ofNat_dvd_left.2 this
theorem rn_near {z y : Int} (hy : Rep y) : (rn z - z).natAbs ≤ (y - z).natAbs := by
  have h1 := rnN_near (n := z.natAbs) hy
  have h0 := rnN_near (n := z.natAbs) (y := 0) ⟨0, 0, rfl, by omega⟩
  have h2 : y.natAbs ≤ z.natAbs → y.natAbs ≤ rnN z.natAbs := fun h => by have := rnN_mono h; rw [rnN_rep hy] at this; exact this
  have h3 : z.natAbs ≤ y.natAbs → rnN z.natAbs ≤ y.natAbs := fun h => by have := rnN_mono h; rw [rnN_rep hy] at this; exact this
  unfold rn
  split <;> omega
theorem rn_rel (z : Int) : 9007199254740992 * (rn z - z).natAbs ≤ z.natAbs ∧ 9007199254740992 * (rn z - z).natAbs ≤ (rn z).natAbs := by
  have h := rnN_rel z.natAbs
  unfold rn
  split <;> omega
theorem rep_err {a b : Int} (ha : Rep a) (hb : Rep b) : Rep (a + b - rn (a + b)) := by
  obtain ⟨m, j, h1, h2, h3⟩ := ha.get
  obtain ⟨n, k, h4, h5, h6⟩ := hb.get
  have na := rn_near (z := a + b) ha
  have nb := rn_near (z := a + b) hb
  have key : ∀ (m n : Int) (j k : Nat) (a b : Int), a = m * 2 ^ j → b = n * 2 ^ k → j ≤ k → -9007199254740992 ≤ m → m ≤ 9007199254740992 → (rn (a + b) - (a + b)).natAbs ≤ (b - (a + b)).natAbs → Rep (a + b - rn (a + b)) := by
    intro m n j k a b h1 h4 hjk h2 h3 hn
    have d1 : (2 : Int) ^ j ∣ a := ⟨m, by rw [h1, Int.mul_comm]⟩
    have d2 : (2 : Int) ^ j ∣ b := ⟨n * 2 ^ (k - j), by rw [h4, Int.mul_left_comm, ← Int.pow_add, Nat.add_sub_cancel' hjk]⟩
    have d3 := rn_dvd (Int.dvd_add d1 d2)
    obtain ⟨t, ht⟩ := Int.dvd_sub (Int.dvd_add d1 d2) d3
    have p : (0 : Int) < 2 ^ j := Int.pow_pos (by omega)
    have hle : (a + b - rn (a + b)).natAbs ≤ a.natAbs := by omega
    rw [ht, h1, Int.natAbs_mul, Int.natAbs_mul, Nat.mul_comm] at hle
    have := Nat.le_of_mul_le_mul_right hle (by omega)
    exact Rep.mk (m := t) (k := j) (by rw [ht, Int.mul_comm]) (by omega) (by omega)
  rcases Nat.le_total j k with h | h
  · exact key m n j k a b h1 h4 h h2 h3 nb
  · have := key n m k j b a h4 h1 h h5 h6 (by rw [Int.add_comm b a]; exact na)
    rw [Int.add_comm b a] at this
    exact this
end
section
theorem pow_pos2 (k : Nat) : (0 : Int) < 2 ^ k := Int.pow_pos (by omega)
theorem mul_gap {u z : Int} (n : Int) (hu : 0 < u) (hd : u ∣ z) (h : z < n * u) : z ≤ n * u - u := by
  obtain ⟨t, rfl⟩ := hd
  rw [Int.mul_comm u t] at *
  have h1 : t < n := Int.lt_of_mul_lt_mul_right h (by omega)
  have h2 := Int.mul_le_mul_of_nonneg_right (show t ≤ n - 1 by omega) (show 0 ≤ u by omega)
  rw [Int.sub_mul, Int.one_mul] at h2
  exact h2
theorem mul_gap' {u z : Int} (n : Int) (hu : 0 < u) (hd : u ∣ z) (h : -(n * u) < z) : -(n * u) + u ≤ z := by
  have := mul_gap (z := -z) n hu (Int.dvd_neg.2 hd) (by omega)
  omega
theorem rep_dvd {z : Int} {k : Nat} (hd : (2 : Int) ^ k ∣ z) (h1 : z ≤ 9007199254740992 * 2 ^ k) (h2 : -(9007199254740992 * 2 ^ k) ≤ z) : Rep z := by
  obtain ⟨t, rfl⟩ := hd
  have p := pow_pos2 k
  rw [Int.mul_comm (2 ^ k) t] at *
  refine Rep.mk (m := t) (k := k) rfl ?_ (Int.le_of_mul_le_mul_right h1 p)
  rw [← Int.neg_mul] at h2
  exact Int.le_of_mul_le_mul_right h2 p
theorem binade (z : Int) : ∃ k : Nat, z < 9007199254740992 * 2 ^ k ∧ -(9007199254740992 * 2 ^ k) < z ∧ (k = 0 ∨ 4503599627370496 * 2 ^ k ≤ z ∨ z ≤ -(4503599627370496 * 2 ^ k)) := by
  by_cases hz : z.natAbs < 4503599627370496
  · exact ⟨0, by omega, by omega, .inl rfl⟩
  · obtain ⟨L, h1, h2⟩ := at_log2 (n := z.natAbs) (by omega)
    have e : (2 : Int) ^ L = ((2 ^ L : Nat) : Int) := by rw [Int.natCast_pow]; rfl
    refine ⟨L, ?_, ?_, .inr ?_⟩ <;> rw [e] <;> generalize 2 ^ L = P at * <;> omega
theorem Rep.dvd {z : Int} {k : Nat} (h : Rep z) (h1 : 4503599627370496 * 2 ^ k ≤ z ∨ z ≤ -(4503599627370496 * 2 ^ k)) : (2 : Int) ^ k ∣ z := by
  have e : (2 : Int) ^ k = ((2 ^ k : Nat) : Int) := by rw [Int.natCast_pow]; rfl
  rw [e] at h1 ⊢
  clear e
  have hk := @RepN.dvd z.natAbs k h
  generalize 2 ^ k = P at *
  exact Int.ofNat_dvd_left.2 (hk (by omega))
theorem rep_tri {a : Int} (k : Nat) (ha : Rep a) : ((2 : Int) ^ (k + 1) ∣ a) ∨ ((2 : Int) ^ k ∣ a ∧ a < 9007199254740992 * 2 ^ k ∧ -(9007199254740992 * 2 ^ k) < a) ∨ (a ≤ 4503599627370496 * 2 ^ k ∧ -(4503599627370496 * 2 ^ k) ≤ a) := by
  obtain ⟨m, j, rfl, h2, h3⟩ := ha.get
  by_cases h : k + 1 ≤ j
  · exact .inl (Int.dvd_trans ⟨2 ^ (j - (k + 1)), by rw [← Int.pow_add, Nat.add_sub_cancel' h]⟩ (Int.dvd_mul_left _ _))
  · by_cases hk : j = k
    · subst hk
      have p := pow_pos2 j
      by_cases he : m = 9007199254740992 ∨ m = -9007199254740992
      · left
        rw [Int.pow_succ]
        rcases he with rfl | rfl
        · exact ⟨4503599627370496, by generalize (2 : Int) ^ j = w; omega⟩
        · exact ⟨-4503599627370496, by generalize (2 : Int) ^ j = w; omega⟩
      · right; left
        refine ⟨Int.dvd_mul_left _ _, Int.mul_lt_mul_of_pos_right (by omega) p, ?_⟩
        rw [← Int.neg_mul]
        exact Int.mul_lt_mul_of_pos_right (by omega) p
    · right; right
      have e : (2 : Int) ^ k = 2 ^ (k - (j + 1)) * (2 ^ j * 2) := by rw [← Int.pow_succ, ← Int.pow_add]; congr 1; omega
      have p := pow_pos2 j
      have q := pow_pos2 (k - (j + 1))
      have b1 : m * 2 ^ j ≤ 9007199254740992 * 2 ^ j := Int.mul_le_mul_of_nonneg_right h3 (by omega)
      have b2 : -9007199254740992 * 2 ^ j ≤ m * 2 ^ j := Int.mul_le_mul_of_nonneg_right h2 (by omega)
      have b3 : 1 * (2 ^ j * 2) ≤ (2 : Int) ^ (k - (j + 1)) * (2 ^ j * 2) := Int.mul_le_mul_of_nonneg_right (by omega) (by omega)
      rw [e]
      generalize (2 : Int) ^ (k - (j + 1)) * (2 ^ j * 2) = W at *
      constructor <;> omega
theorem fast_rep {a b : Int} (ha : Rep a) (hb : Rep b) (hab : b.natAbs ≤ a.natAbs) : Rep (rn (a + b) - a) := by
  obtain ⟨k, h1, h2, h3⟩ := binade a
  rcases k with _ | k
  · have e := rn_err (z := a + b) (k := 1) (by omega) (by omega)
    rw [Int.pow_succ, Int.pow_zero] at e
    exact Rep.small (by omega) (by omega)
  · have h3 := h3.resolve_left (by omega)
    have da := ha.dvd h3
    have p := pow_pos2 k
    have s1 : (2 : Int) ^ (k + 1) = 2 ^ k * 2 := Int.pow_succ _ _
    have s2 : (2 : Int) ^ (k + 2) = 2 ^ k * 4 := by rw [Int.pow_succ, Int.pow_succ]; omega
    have wu : (2 : Int) ^ k ∣ 2 ^ (k + 1) := ⟨2, s1⟩
    by_cases db : (2 : Int) ^ (k + 1) ∣ b
    · have dh := rn_dvd (Int.dvd_add da db)
      have e := rn_err (z := a + b) (k := k + 2) (by rw [s2]; rw [s1] at h1 h2; omega) (by rw [s2]; rw [s1] at h1 h2; omega)
      have b1 := mul_gap (z := b) 9007199254740992 (pow_pos2 (k + 1)) db (by omega)
      have b2 := mul_gap' (z := b) 9007199254740992 (pow_pos2 (k + 1)) db (by omega)
      rw [s2] at e
      refine rep_dvd (Int.dvd_sub dh da) ?_ ?_ <;> rw [s1] at * <;> omega
    · rcases rep_tri k hb with g | ⟨g, g1, g2⟩ | ⟨g1, g2⟩
      · exact absurd g db
      · have dh := rn_dvd (Int.dvd_add (Int.dvd_trans wu da) g)
        have b1 := mul_gap (z := b) 9007199254740992 p g g1
        have b2 := mul_gap' (z := b) 9007199254740992 p g g2
        by_cases hs : a + b ≤ 9007199254740992 * 2 ^ (k + 1) ∧ -(9007199254740992 * 2 ^ (k + 1)) ≤ a + b
        · have e := rn_err (z := a + b) (k := k + 1) hs.1 hs.2
          rw [s1] at e
          refine rep_dvd (Int.dvd_sub dh (Int.dvd_trans wu da)) ?_ ?_ <;> omega
        · have d4 : (2 : Int) ^ (k + 2) ∣ rn (a + b) := rn_dvd_big (by rw [s1] at hs; rw [s2]; omega)
          have du : (2 : Int) ^ (k + 1) ∣ rn (a + b) := Int.dvd_trans ⟨2, Int.pow_succ _ _⟩ d4
          have e := rn_err (z := a + b) (k := k + 2) (by rw [s2]; rw [s1] at h1 h2; omega) (by rw [s2]; rw [s1] at h1 h2; omega)
          rw [s2] at e
          have nd : ¬ (2 : Int) ^ (k + 1) ∣ a + b - rn (a + b) := fun hd => db (by
            have := Int.dvd_sub (Int.dvd_add hd du) da
            rw [show a + b - rn (a + b) + rn (a + b) - a = b by omega] at this
            exact this)
          have ne : a + b - rn (a + b) ≠ 2 ^ (k + 1) ∧ a + b - rn (a + b) ≠ -2 ^ (k + 1) := ⟨fun h => nd (h ▸ Int.dvd_refl _), fun h => nd (h ▸ Int.dvd_neg.2 (Int.dvd_refl _))⟩
          have dw : (2 : Int) ^ k ∣ a + b - rn (a + b) := Int.dvd_sub (Int.dvd_add (Int.dvd_trans wu da) g) dh
          have c1 := mul_gap (z := a + b - rn (a + b)) 2 p dw (by rw [s1] at ne; omega)
          have c2 := mul_gap' (z := a + b - rn (a + b)) 2 p dw (by rw [s1] at ne; omega)
          refine rep_dvd (Int.dvd_sub dh (Int.dvd_trans wu da)) ?_ ?_ <;> omega
      · have dh : (2 : Int) ^ k ∣ rn (a + b) := rn_dvd_big (by rw [s1] at h3; omega)
        have e := rn_err (z := a + b) (k := k + 2) (by rw [s2]; rw [s1] at h1 h2; omega) (by rw [s2]; rw [s1] at h1 h2; omega)
        rw [s2] at e
        refine rep_dvd (Int.dvd_sub dh (Int.dvd_trans wu da)) ?_ ?_ <;> omega
theorem slow_rep {a b : Int} (ha : Rep a) (hb : Rep b) (hab : a.natAbs ≤ b.natAbs) : Rep (rn (a + b) - rn (rn (a + b) - a)) ∧ Rep (b - rn (rn (a + b) - a)) := by
  have easy : Rep (rn (a + b) - a) → Rep (rn (a + b) - rn (rn (a + b) - a)) ∧ Rep (b - rn (rn (a + b) - a)) := by
    intro h
    rw [rn_rep h]
    refine ⟨?_, ?_⟩
    · rw [show rn (a + b) - (rn (a + b) - a) = a by omega]; exact ha
    · rw [show b - (rn (a + b) - a) = a + b - rn (a + b) by omega]; exact rep_err ha hb
  obtain ⟨k, h1, h2, h3⟩ := binade b
  rcases k with _ | k
  · have e := rn_err (z := a + b) (k := 1) (by omega) (by omega)
    rw [Int.pow_succ, Int.pow_zero] at e
    exact easy (Rep.small (by omega) (by omega))
  · have h3 := h3.resolve_left (by omega)
    have db := hb.dvd h3
    have p := pow_pos2 k
    have s1 : (2 : Int) ^ (k + 1) = 2 ^ k * 2 := Int.pow_succ _ _
    have s2 : (2 : Int) ^ (k + 2) = 2 ^ k * 4 := by rw [Int.pow_succ, Int.pow_succ]; omega
    have wu : (2 : Int) ^ k ∣ 2 ^ (k + 1) := ⟨2, s1⟩
    have e := rn_err (z := a + b) (k := k + 2) (by rw [s2]; rw [s1] at h1 h2; omega) (by rw [s2]; rw [s1] at h1 h2; omega)
    rw [s2] at e
    have b1 := mul_gap (z := b) 9007199254740992 (pow_pos2 (k + 1)) db (by omega)
    have b2 := mul_gap' (z := b) 9007199254740992 (pow_pos2 (k + 1)) db (by omega)
    by_cases da : (2 : Int) ^ (k + 1) ∣ a
    · have dh := rn_dvd (Int.dvd_add da db)
      refine easy (rep_dvd (Int.dvd_sub dh da) ?_ ?_) <;> rw [s1] at * <;> omega
    · have f := rn_err (z := rn (a + b) - a) (k := k + 1) (by rw [s1] at *; omega) (by rw [s1] at *; omega)
      have dwb := Int.dvd_trans wu db
      rcases rep_tri k ha with g | ⟨g, g1, g2⟩ | ⟨g1, g2⟩
      · exact absurd g da
      · have dh := rn_dvd (Int.dvd_add g dwb)
        have dv := rn_dvd (Int.dvd_sub dh g)
        have c1 := mul_gap (z := a) 9007199254740992 p g g1
        have c2 := mul_gap' (z := a) 9007199254740992 p g g2
        rw [s1] at *
        refine ⟨rep_dvd (Int.dvd_sub dh dv) ?_ ?_, rep_dvd (Int.dvd_sub dwb dv) ?_ ?_⟩ <;> omega
      · have dh : (2 : Int) ^ k ∣ rn (a + b) := rn_dvd_big (by rw [s1] at h3; omega)
        have dv : (2 : Int) ^ k ∣ rn (rn (a + b) - a) := rn_dvd_big (by rw [s1] at *; omega)
        rw [s1] at *
        refine ⟨rep_dvd (Int.dvd_sub dh dv) ?_ ?_, rep_dvd (Int.dvd_sub dwb dv) ?_ ?_⟩ <;> omega
theorem two_sum {a b : Int} (ha : Rep a) (hb : Rep b) : rn (rn (a - rn (rn (a + b) - rn (rn (a + b) - a))) + rn (b - rn (rn (a + b) - a))) = a + b - rn (a + b) := by
  rcases Nat.le_total b.natAbs a.natAbs with h | h
  · rw [rn_rep (fast_rep ha hb h), show rn (a + b) - (rn (a + b) - a) = a by omega, rn_rep ha, Int.sub_self, rn_zero, show b - (rn (a + b) - a) = a + b - rn (a + b) by omega, rn_rep (rep_err ha hb), Int.zero_add, rn_rep (rep_err ha hb)]
  · obtain ⟨h1, h2⟩ := slow_rep ha hb h
    have h3 := (rep_err (rep_rn (a + b)) ha.neg).neg
    rw [← Int.sub_eq_add_neg, show -(rn (a + b) - a - rn (rn (a + b) - a)) = a - (rn (a + b) - rn (rn (a + b) - a)) by omega] at h3
    rw [rn_rep h1, rn_rep h2, rn_rep h3, show a - (rn (a + b) - rn (rn (a + b) - a)) + (b - rn (rn (a + b) - a)) = a + b - rn (a + b) by omega, rn_rep (rep_err ha hb)]
theorem fast_two_sum {a b : Int} (ha : Rep a) (hb : Rep b) (h : b.natAbs ≤ a.natAbs) : rn (b - rn (rn (a + b) - a)) = a + b - rn (a + b) := by
  rw [rn_rep (fast_rep ha hb h), show b - (rn (a + b) - a) = a + b - rn (a + b) by omega, rn_rep (rep_err ha hb)]
end
section
def cut (a : Int) : Int := rn (rn (134217729 * a) - rn (rn (134217729 * a) - a))
theorem cut_zero : cut 0 = 0 := by unfold cut; simp only [Int.mul_zero, rn_zero, Int.sub_self, Int.sub_zero]
theorem cut_neg (a : Int) : cut (-a) = -cut a := by
  unfold cut
  rw [show 134217729 * -a = -(134217729 * a) by omega, rn_neg, show -rn (134217729 * a) - -a = -(rn (134217729 * a) - a) by omega, rn_neg,
    show -rn (134217729 * a) - -rn (rn (134217729 * a) - a) = -(rn (134217729 * a) - rn (rn (134217729 * a) - a)) by omega, rn_neg]
theorem cut_shift (a : Int) (k : Nat) : cut (a * 2 ^ k) = cut a * 2 ^ k := by
  unfold cut
  rw [← Int.mul_assoc, rn_shift, ← Int.sub_mul, rn_shift, ← Int.sub_mul, rn_shift]
theorem p26 : (2 : Int) ^ 26 = 67108864 := by decide
theorem p27 : (2 : Int) ^ 27 = 134217728 := by decide
theorem p28 : (2 : Int) ^ 28 = 268435456 := by decide
theorem p52 : (2 : Int) ^ 52 = 4503599627370496 := by decide
theorem p53 : (2 : Int) ^ 53 = 9007199254740992 := by decide
theorem p54 : (2 : Int) ^ 54 = 18014398509481984 := by decide
theorem cut_pos {A : Int} (h1 : 4503599627370496 ≤ A) (h2 : A < 9007199254740992) :
    (134217728 : Int) ∣ cut A ∧ cut A ≤ 9007199254740992 ∧ -9007199254740992 ≤ cut A ∧ A - cut A ≤ 67108864 ∧ -67108864 ≤ A - cut A := by
  have e1 := rn_err (z := 134217729 * A) (k := 28) (by rw [p28]; omega) (by rw [p28]; omega)
  have d1 := rn_dvd_big (z := 134217729 * A) (k := 27) (by rw [p27]; omega)
  have hlo : 4503599627370496 * 2 ^ 27 ≤ rn (134217729 * A) - A := by
    by_cases hA : A = 4503599627370496
    · subst hA
      rw [rn_rep (Rep.mk (m := 134217729) (k := 52) (by decide) (by omega) (by omega)), p27]; omega
    · rw [p27]; rw [p28] at e1; omega
  rw [p28] at e1
  unfold cut
  generalize rn (134217729 * A) = c at *
  have e2 := rn_err (z := c - A) (k := 27) (by rw [p27]; omega) (by rw [p27] at *; omega)
  have d2 := rn_dvd_big (z := c - A) (k := 27) (.inl hlo)
  generalize rn (c - A) = d at *
  have d3 := Int.dvd_sub d1 d2
  have m1 := mul_gap (z := c - d) 67108865 (pow_pos2 27) d3 (by rw [p27] at *; omega)
  have hr : Rep (c - d) := rep_dvd d3 (by rw [p27] at *; omega) (by rw [p27] at *; omega)
  rw [rn_rep hr]
  rw [p27] at *
  refine ⟨d3, ?_, ?_, ?_, ?_⟩ <;> omega
theorem cut_spec {A : Int} (h : (4503599627370496 ≤ A ∧ A < 9007199254740992) ∨ (4503599627370496 ≤ -A ∧ -A < 9007199254740992)) :
    (134217728 : Int) ∣ cut A ∧ cut A ≤ 9007199254740992 ∧ -9007199254740992 ≤ cut A ∧ A - cut A ≤ 67108864 ∧ -67108864 ≤ A - cut A := by
  rcases h with ⟨h1, h2⟩ | ⟨h1, h2⟩
  · exact cut_pos h1 h2
  · obtain ⟨g1, g2, g3, g4, g5⟩ := cut_pos h1 h2
    rw [cut_neg] at *
    refine ⟨(Int.dvd_neg.1 g1), ?_, ?_, ?_, ?_⟩ <;> omega
theorem mul_bound {x y : Int} {m n : Nat} (hx : x.natAbs ≤ m) (hy : y.natAbs ≤ n) : (x * y).natAbs ≤ m * n := by
  rw [Int.natAbs_mul]; exact Nat.mul_le_mul hx hy
theorem cut_low {A : Int} (h : (4503599627370496 ≤ A ∧ A < 9007199254740992) ∨ (4503599627370496 ≤ -A ∧ -A < 9007199254740992)) : rn (A - cut A) = A - cut A := by
  obtain ⟨-, -, -, g4, g5⟩ := cut_spec h
  exact rn_rep (Rep.small (by omega) (by omega))
set_option maxRecDepth 10000 in
theorem two_prod0 {X Y : Int} (hX : (4503599627370496 ≤ X ∧ X < 9007199254740992) ∨ (4503599627370496 ≤ -X ∧ -X < 9007199254740992)) (hY : (4503599627370496 ≤ Y ∧ Y < 9007199254740992) ∨ (4503599627370496 ≤ -Y ∧ -Y < 9007199254740992)) :
    rn (rn ((X - cut X) * (Y - cut Y)) - rn (rn (rn (rn (X * Y) - rn (cut X * cut Y)) - rn ((X - cut X) * cut Y)) - rn (cut X * (Y - cut Y)))) = X * Y - rn (X * Y) := by
  obtain ⟨⟨P, hP⟩, x2, x3, x4, x5⟩ := cut_spec hX
  obtain ⟨⟨R, hR⟩, y2, y3, y4, y5⟩ := cut_spec hY
  have hXY : X * Y = (P * R) * 18014398509481984 + ((X - cut X) * R + P * (Y - cut Y)) * 134217728 + (X - cut X) * (Y - cut Y) := by
    have a : X = 134217728 * P + (X - cut X) := by omega
    have b : Y = 134217728 * R + (Y - cut Y) := by omega
    generalize X - cut X = Q at *
    generalize Y - cut Y = S at *
    subst a; subst b
    rw [Int.add_mul, Int.mul_add, Int.mul_add, Int.mul_assoc 134217728 P (134217728 * R), Int.mul_left_comm P 134217728 R, Int.mul_assoc 134217728 P S, Int.mul_left_comm Q 134217728 R]
    omega
  have bXY : (X * Y).natAbs ≤ 9007199254740991 * 9007199254740991 := mul_bound (by omega) (by omega)
  have lXY : 4503599627370496 * 4503599627370496 ≤ (X * Y).natAbs := by rw [Int.natAbs_mul]; exact Nat.mul_le_mul (by omega) (by omega)
  rw [hP] at *
  rw [hR] at *
  generalize X - 134217728 * P = Q at *
  generalize Y - 134217728 * R = S at *
  have b1 : (P * R).natAbs ≤ 67108864 * 67108864 := mul_bound (by omega) (by omega)
  have b2 : (Q * R).natAbs ≤ 67108864 * 67108864 := mul_bound (by omega) (by omega)
  have b3 : (P * S).natAbs ≤ 67108864 * 67108864 := mul_bound (by omega) (by omega)
  have b4 : (Q * S).natAbs ≤ 67108864 * 67108864 := mul_bound (by omega) (by omega)
  have q1 : 134217728 * P * (134217728 * R) = (P * R) * 18014398509481984 := by rw [Int.mul_assoc, Int.mul_left_comm P]; omega
  have q2 : Q * (134217728 * R) = Q * R * 134217728 := by rw [Int.mul_left_comm]; omega
  have q3 : 134217728 * P * S = P * S * 134217728 := by rw [Int.mul_assoc]; omega
  rw [q1, q2, q3]
  rw [Int.add_mul] at hXY
  have e := rn_err (z := X * Y) (k := 53) (by rw [p53]; omega) (by rw [p53]; omega)
  have d := rn_dvd_big (z := X * Y) (k := 52) (by rw [p52]; omega)
  rw [p53] at e
  rw [p52] at d
  generalize rn (X * Y) = g at *
  generalize X * Y = XY at *
  generalize P * R = t1 at *
  generalize Q * R = t2 at *
  generalize P * S = t3 at *
  generalize Q * S = t4 at *
  have r1 : rn (t1 * 18014398509481984) = t1 * 18014398509481984 := rn_rep (Rep.mk (m := t1) (k := 54) (by rw [p54]) (by omega) (by omega))
  have r2 : rn (t2 * 134217728) = t2 * 134217728 := rn_rep (Rep.mk (m := t2) (k := 27) (by rw [p27]) (by omega) (by omega))
  have r3 : rn (t3 * 134217728) = t3 * 134217728 := rn_rep (Rep.mk (m := t3) (k := 27) (by rw [p27]) (by omega) (by omega))
  have r4 : rn t4 = t4 := rn_rep (Rep.small (by omega) (by omega))
  obtain ⟨G, hG⟩ := d
  have s1 : rn (g - t1 * 18014398509481984) = g - t1 * 18014398509481984 := by
    refine rn_rep (Rep.mk (m := G - 4 * t1) (k := 52) (by rw [p52]; omega) ?_ ?_) <;> omega
  have s2 : rn (g - t1 * 18014398509481984 - t2 * 134217728) = g - t1 * 18014398509481984 - t2 * 134217728 := by
    refine rn_rep (Rep.mk (m := 33554432 * (G - 4 * t1) - t2) (k := 27) (by rw [p27]; omega) ?_ ?_) <;> omega
  have s3 : rn (g - t1 * 18014398509481984 - t2 * 134217728 - t3 * 134217728) = g - t1 * 18014398509481984 - t2 * 134217728 - t3 * 134217728 :=
    rn_rep (Rep.small (by omega) (by omega))
  have s4 : rn (t4 - (g - t1 * 18014398509481984 - t2 * 134217728 - t3 * 134217728)) = t4 - (g - t1 * 18014398509481984 - t2 * 134217728 - t3 * 134217728) :=
    rn_rep (Rep.small (by omega) (by omega))
  rw [r1, r2, r3, r4, s1, s2, s3, s4]
  omega
end
end Go.Proofs.YtllapbkoildfiaaGreatFmt
