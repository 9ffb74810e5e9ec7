/- The plain law of floats: words of binary64 and their values in units of the least place · The plain law of floats: what sums, differences, products and comparisons of finite words give · The plain law of floats: the filters of the determinant tell its sign. -/
import Derived.Test.YtllapbkoildfiaaGreatFmtM00
set_option linter.all false
namespace Go.Proofs.YtllapbkoildfiaaGreatFmt
section
open Ieee
def mg (r : Nat) : Nat := if r < 4503599627370496 then r else (4503599627370496 + r % 4503599627370496) * 2 ^ (r / 4503599627370496 - 1)
def fv (w : Nat) : Int := if w / 9223372036854775808 % 2 = 1 then -((mg (w % 9223372036854775808) : Nat) : Int) else ((mg (w % 9223372036854775808) : Nat) : Int)
def Fin64 (w : Nat) : Prop := w < 18446744073709551616 ∧ w % 9223372036854775808 < 9218868437227405312
theorem binade_eq : double.binade = 4503599627370496 := by decide
theorem infRung_eq : double.infRung = 9218868437227405312 := by decide
theorem signWeight_eq : double.signWeight = 9223372036854775808 := by decide
theorem leastPlace_eq : double.leastPlace = -1074 := by decide
theorem mg_small {r : Nat} (h : r < 4503599627370496) : mg r = r := by unfold mg; rw [if_pos h]
theorem mg_at {L c : Nat} (h : L = 0 ∧ c < 9007199254740992 ∨ 4503599627370496 ≤ c ∧ c ≤ 9007199254740992) : mg (L * 4503599627370496 + c) = c * 2 ^ L := by
  unfold mg
  by_cases h1 : L * 4503599627370496 + c < 4503599627370496
  · rw [if_pos h1]
    have : L = 0 := by omega
    subst this; omega
  · rw [if_neg h1]
    by_cases h2 : c < 9007199254740992
    · have a : (L * 4503599627370496 + c) / 4503599627370496 - 1 = L := by omega
      have b : 4503599627370496 + (L * 4503599627370496 + c) % 4503599627370496 = c := by omega
      rw [a, b]
    · have a : (L * 4503599627370496 + c) / 4503599627370496 - 1 = L + 1 := by omega
      have b : 4503599627370496 + (L * 4503599627370496 + c) % 4503599627370496 = 4503599627370496 := by omega
      have c : c = 4503599627370496 * 2 := by omega
      rw [a, b, c, Nat.pow_succ, Nat.mul_comm (2 ^ L) 2, ← Nat.mul_assoc]
theorem word_val {neg : Bool} {r : Nat} (h : r < 9218868437227405312) : Fin64 (double.word neg r) ∧ fv (double.word neg r) = (if neg then -((mg r : Nat) : Int) else ((mg r : Nat) : Int)) := by
  unfold Format.word Fin64 fv
  rw [signWeight_eq]
  cases neg
  · rw [if_neg (by decide), if_neg (by omega), if_neg (by decide), Nat.mod_eq_of_lt (by omega)]
    exact ⟨⟨by omega, h⟩, rfl⟩
  · rw [if_pos rfl, if_pos (by omega), if_pos rfl, Nat.add_mod_left, Nat.mod_eq_of_lt (by omega)]
    exact ⟨⟨by omega, h⟩, rfl⟩
theorem read_fin {w : Nat} (h : Fin64 w) : ∃ (m : Nat) (i : Int), double.read w = .number (w / 9223372036854775808 % 2 == 1) m i ∧ -1074 ≤ i ∧ mg (w % 9223372036854775808) = m * 2 ^ (i + 1074).toNat := by
  unfold Format.read mg
  simp only [signWeight_eq, binade_eq, infRung_eq, leastPlace_eq]
  obtain ⟨h1, h2⟩ := h
  by_cases hs : w % 9223372036854775808 < 4503599627370496
  · rw [if_pos hs, if_pos hs]
    exact ⟨_, _, rfl, by omega, by simp⟩
  · rw [if_neg hs, if_pos h2, if_neg hs]
    refine ⟨_, _, rfl, by omega, ?_⟩
    congr 2
    omega
theorem log2_shift (m k : Nat) (h : m ≠ 0) : (m * 2 ^ k).log2 = m.log2 + k := by
  rw [Nat.log2_eq_iff (Nat.mul_ne_zero h (Nat.ne_of_gt (Nat.two_pow_pos _)))]
  refine ⟨?_, ?_⟩
  · rw [Nat.pow_add]; exact Nat.mul_le_mul_right _ (Nat.log2_self_le h)
  · rw [show m.log2 + k + 1 = m.log2 + 1 + k by omega, Nat.pow_add]; exact Nat.mul_lt_mul_of_pos_right Nat.lt_log2_self (Nat.two_pow_pos _)
theorem cut_zero' (neg : Bool) (n : Nat) : Toward.even.cut neg n 0 = n := by
  simp [Toward.cut, Nat.mod_one]
theorem cut_eq {neg : Bool} {n d : Nat} (h : d ≤ n.log2 + 2) : Toward.even.cut neg n d = upN (n / 2 ^ d) (n % 2 ^ d) (2 ^ d) := by
  unfold Toward.cut upN
  rw [Nat.min_eq_left h, Nat.one_shiftLeft]
  by_cases h1 : 2 ^ d < 2 * (n % 2 ^ d)
  · simp [h1]
  · by_cases h2 : 2 ^ d = 2 * (n % 2 ^ d)
    · by_cases h3 : n / 2 ^ d % 2 = 1
      · simp [← h2, h3]
      · simp [← h2, h3]
    · simp [h1, h2]
theorem nearest_at {neg : Bool} {mag n t e : Nat} {place : Int} (he : place + 1074 + t = e) (hn : mag * 2 ^ e = n * 2 ^ t) (h0 : n ≠ 0) :
    ∃ L c, double.nearest neg mag place = double.word neg (min (L * 4503599627370496 + c) 9218868437227405312) ∧ rnN n = c * 2 ^ L ∧ (L = 0 ∧ c < 9007199254740992 ∨ 4503599627370496 ≤ c ∧ c ≤ 9007199254740992) := by
  have pt : 0 < 2 ^ t := Nat.two_pow_pos _
  have hm : mag ≠ 0 := by rintro rfl; rw [Nat.zero_mul] at hn; have := Nat.mul_pos (Nat.pos_of_ne_zero h0) pt; omega
  have hl := log2_shift mag e hm
  rw [hn, log2_shift n t h0] at hl
  unfold Format.nearest
  rw [if_neg hm]
  simp only [leastPlace_eq, binade_eq, infRung_eq]
  have hL : (max (place + (mag.log2 : Int) - (double.fractionBits : Int)) (-1074) - -1074).toNat = n.log2 - 52 := by
    have : (double.fractionBits : Int) = 52 := rfl
    omega
  have hL2 : max (place + (mag.log2 : Int) - (double.fractionBits : Int)) (-1074) = ((n.log2 - 52 : Nat) : Int) - 1074 := by
    have : (double.fractionBits : Int) = 52 := rfl
    omega
  rw [hL2]
  have hkept : Toward.even.cut neg (mag <<< (place - (((n.log2 - 52 : Nat) : Int) - 1074)).toNat) ((((n.log2 - 52 : Nat) : Int) - 1074) - place).toNat = upN (n / 2 ^ (n.log2 - 52)) (n % 2 ^ (n.log2 - 52)) (2 ^ (n.log2 - 52)) := by
    generalize hLL : n.log2 - 52 = L at *
    by_cases hp : ((L : Int) - 1074) ≤ place
    · have : (((L : Int) - 1074) - place).toNat = 0 := by omega
      rw [this, cut_zero', Nat.shiftLeft_eq]
      generalize hs : (place - ((L : Int) - 1074)).toNat = s
      have hes : e = s + L + t := by omega
      have : n = mag * 2 ^ s * 2 ^ L := by
        rw [hes, Nat.pow_add, Nat.pow_add, ← Nat.mul_assoc, ← Nat.mul_assoc] at hn
        exact (Nat.eq_of_mul_eq_mul_right pt hn).symm
      rw [this, Nat.mul_div_cancel _ (Nat.two_pow_pos _), Nat.mul_mod_left, upN_zero _ _ (Nat.two_pow_pos _)]
    · have : (place - ((L : Int) - 1074)).toNat = 0 := by omega
      rw [this, Nat.shiftLeft_zero]
      generalize hd : (((L : Int) - 1074) - place).toNat = d
      have hde : d + e = L + t := by omega
      rw [cut_eq (by omega)]
      have pe : 0 < 2 ^ e := Nat.two_pow_pos _
      have e1 : n / 2 ^ L = mag / 2 ^ d := by
        rw [← Nat.mul_div_mul_right n (2 ^ L) pt, ← hn, ← Nat.pow_add, ← hde, Nat.pow_add, Nat.mul_div_mul_right _ _ pe]
      have e2 : n % 2 ^ L * 2 ^ t = mag % 2 ^ d * 2 ^ e := by
        rw [← Nat.mul_mod_mul_right, ← hn, ← Nat.pow_add, ← hde, Nat.pow_add, Nat.mul_mod_mul_right]
      have e3 : 2 ^ L * 2 ^ t = 2 ^ d * 2 ^ e := by rw [← Nat.pow_add, ← Nat.pow_add, hde]
      rw [e1]
      have c1 : 2 ^ L < 2 * (n % 2 ^ L) ↔ 2 ^ d < 2 * (mag % 2 ^ d) := by
        have a : 2 ^ L < 2 * (n % 2 ^ L) ↔ 2 ^ L * 2 ^ t < 2 * (n % 2 ^ L) * 2 ^ t := ⟨fun h => Nat.mul_lt_mul_of_pos_right h pt, fun h => Nat.lt_of_mul_lt_mul_right h⟩
        have b : 2 ^ d < 2 * (mag % 2 ^ d) ↔ 2 ^ d * 2 ^ e < 2 * (mag % 2 ^ d) * 2 ^ e := ⟨fun h => Nat.mul_lt_mul_of_pos_right h pe, fun h => Nat.lt_of_mul_lt_mul_right h⟩
        rw [a, b, e3, Nat.mul_assoc, Nat.mul_assoc, e2]
      have c2 : 2 ^ L = 2 * (n % 2 ^ L) ↔ 2 ^ d = 2 * (mag % 2 ^ d) := by
        have a : 2 ^ L = 2 * (n % 2 ^ L) ↔ 2 ^ L * 2 ^ t = 2 * (n % 2 ^ L) * 2 ^ t := ⟨fun h => congrArg (fun x => x * 2 ^ t) h, fun h => Nat.eq_of_mul_eq_mul_right pt h⟩
        have b : 2 ^ d = 2 * (mag % 2 ^ d) ↔ 2 ^ d * 2 ^ e = 2 * (mag % 2 ^ d) * 2 ^ e := ⟨fun h => congrArg (fun x => x * 2 ^ e) h, fun h => Nat.eq_of_mul_eq_mul_right pe h⟩
        rw [a, b, e3, Nat.mul_assoc, Nat.mul_assoc, e2]
      unfold upN
      simp only [c1, c2]
  have hL3 : (((n.log2 - 52 : Nat) : Int) - 1074 - -1074).toNat = n.log2 - 52 := by omega
  rw [hkept, hL3]
  refine ⟨n.log2 - 52, _, rfl, rfl, ?_⟩
  by_cases hs : n < 4503599627370496
  · left
    have := log2_small (n := n) (by omega)
    rw [show n.log2 - 52 = 0 by omega, Nat.pow_zero, Nat.mod_one, Nat.div_one, upN_zero _ _ (by omega)]
    omega
  · right
    obtain ⟨L, h1, h2⟩ := at_log2 (n := n) (by omega)
    obtain ⟨c, c1, c2, c3, -⟩ := rnN_spec h1 h2
    rw [rnN_at h1 h2] at c1
    have := Nat.eq_of_mul_eq_mul_right (Nat.two_pow_pos _) c1
    rw [log2_at h1 h2, show 52 + L - 52 = L by omega, this]
    exact ⟨c2, c3⟩
theorem nearest_val {neg : Bool} {mag n t e : Nat} {place : Int} (he : place + 1074 + t = e) (hn : mag * 2 ^ e = n * 2 ^ t) (hb : rnN n < 9007199254740992 * 2 ^ 2045) :
    Fin64 (double.nearest neg mag place) ∧ fv (double.nearest neg mag place) = (if neg then -((rnN n : Nat) : Int) else ((rnN n : Nat) : Int)) := by
  by_cases h0 : n = 0
  · subst h0
    have hm : mag = 0 := by
      rw [Nat.zero_mul] at hn
      rcases Nat.mul_eq_zero.1 hn with h | h
      · exact h
      · have := Nat.two_pow_pos e; omega
    unfold Format.nearest
    rw [if_pos hm, rnN_zero]
    have := word_val (neg := neg) (r := 0) (by omega)
    rw [mg_small (by omega)] at this
    exact this
  · obtain ⟨L, c, h1, h2, h3⟩ := nearest_at (neg := neg) he hn h0
    rw [h2] at hb ⊢
    have hlt : L * 4503599627370496 + c < 9218868437227405312 := by
      rcases h3 with h3 | h3
      · omega
      · by_cases hL : L ≤ 2045
        · by_cases hL2 : L = 2045
          · subst hL2
            have := Nat.lt_of_mul_lt_mul_right hb
            omega
          · omega
        · exfalso
          have a1 := pow_split (a := 2046) (b := L) (by omega)
          set_option exponentiation.threshold 100000 in rw [show 2046 = 2045 + 1 from rfl, Nat.pow_succ] at a1
          have p := Nat.two_pow_pos (L - 2046)
          have q := Nat.two_pow_pos 2045
          generalize 2 ^ 2045 = W at *
          have a2 : W * 2 ≤ 2 ^ L := by rw [a1]; exact Nat.le_mul_of_pos_left _ p
          have a3 : 4503599627370496 * 2 ^ L ≤ c * 2 ^ L := Nat.mul_le_mul_right _ h3.1
          omega
    rw [h1, Nat.min_eq_left (by omega), ← mg_at h3]
    exact word_val hlt
end
section
open Ieee
theorem signed_mul (s : Bool) (m a b : Nat) : signed s m a * ((2 ^ b : Nat) : Int) = signed s m (a + b) := by
  unfold signed
  rw [Nat.shiftLeft_eq, Nat.shiftLeft_eq, Nat.pow_add, ← Nat.mul_assoc]
  cases s
  · rw [if_neg (by decide), if_neg (by decide), ← Int.natCast_mul]
  · rw [if_pos rfl, if_pos rfl, Int.neg_mul, ← Int.natCast_mul]
theorem fv_read {w m : Nat} {i : Int} (hm : mg (w % 9223372036854775808) = m * 2 ^ (i + 1074).toNat) : fv w = signed (w / 9223372036854775808 % 2 == 1) m (i + 1074).toNat := by
  unfold fv signed
  rw [Nat.shiftLeft_eq, hm]
  by_cases h : w / 9223372036854775808 % 2 = 1
  · rw [if_pos h, if_pos (by simp [h])]
  · rw [if_neg h, if_neg (by simp [h])]
theorem signed_not (s : Bool) (m a : Nat) : signed (!s) m a = -signed s m a := by
  unfold signed
  cases s <;> simp
theorem zero_mul_pow {z : Int} {k : Nat} (h : z * ((2 ^ k : Nat) : Int) = 0) : z = 0 := by
  rcases Int.mul_eq_zero.1 h with h | h
  · exact h
  · have := Nat.two_pow_pos k; omega
theorem neg_mul_pow (z : Int) (k : Nat) : z * ((2 ^ k : Nat) : Int) < 0 ↔ z < 0 := by
  have p : (0 : Int) < ((2 ^ k : Nat) : Int) := by have := Nat.two_pow_pos k; omega
  constructor
  · intro h
    rcases Int.lt_or_le z 0 with g | g
    · exact g
    · have := Int.mul_nonneg g (Int.le_of_lt p); omega
  · intro h; exact Int.mul_neg_of_neg_of_pos h p
theorem sum_word {s t : Bool} {m n : Nat} {i j : Int} (hi : -1074 ≤ i) (hj : -1074 ≤ j) {z : Int} (hz : signed s m (i + 1074).toNat + signed t n (j + 1074).toNat = z) (hb : (rn z).natAbs < 9007199254740992 * 2 ^ 2045) :
    ∃ r, ((Datum.number s m i).sum (Datum.number t n j)).map double.write = some r ∧ Fin64 r ∧ fv r = rn z := by
  simp only [Datum.sum, Option.map]
  have hbase : -1074 ≤ min i j := by omega
  generalize hT : signed s m (i - min i j).toNat + signed t n (j - min i j).toNat = T
  have hTz : T * ((2 ^ (min i j + 1074).toNat : Nat) : Int) = z := by
    rw [← hT, ← hz, Int.add_mul, signed_mul, signed_mul]
    congr 2 <;> omega
  generalize min i j = b at *
  have hn : T.natAbs * 2 ^ (b + 1074).toNat = z.natAbs * 2 ^ 0 := by rw [← hTz, Int.natAbs_mul, Int.natAbs_natCast, Nat.pow_zero, Nat.mul_one]
  rw [rn_abs] at hb
  refine ⟨_, rfl, ?_⟩
  have := nearest_val (neg := if T = 0 then s && t else decide (T < 0)) (mag := T.natAbs) (n := z.natAbs) (t := 0) (e := (b + 1074).toNat) (place := b) (by omega) hn hb
  refine ⟨this.1, this.2.trans ?_⟩
  unfold rn
  by_cases h0 : T = 0
  · have hz0 : z = 0 := by rw [← hTz, h0, Int.zero_mul]
    rw [hz0, show Int.natAbs 0 = 0 from rfl, rnN_zero]
    split <;> split <;> rfl
  · rw [if_neg h0]
    have := neg_mul_pow T (b + 1074).toNat
    rw [hTz] at this
    by_cases hT0 : T < 0
    · rw [if_pos (this.2 hT0), if_pos (by simp [hT0])]
    · rw [if_neg (fun h => hT0 (this.1 h)), if_neg (by simp [hT0])]
theorem add_word {x y : Nat} (hx : Fin64 x) (hy : Fin64 y) (hb : (rn (fv x + fv y)).natAbs < 9007199254740992 * 2 ^ 2045) :
    ∃ r, double.add x y = some r ∧ Fin64 r ∧ fv r = rn (fv x + fv y) := by
  obtain ⟨m, i, rx, hi, mx⟩ := read_fin hx
  obtain ⟨n, j, ry, hj, my⟩ := read_fin hy
  unfold Format.add
  rw [rx, ry]
  exact sum_word hi hj (by rw [fv_read mx, fv_read my]) hb
theorem sub_word {x y : Nat} (hx : Fin64 x) (hy : Fin64 y) (hb : (rn (fv x - fv y)).natAbs < 9007199254740992 * 2 ^ 2045) :
    ∃ r, double.sub x y = some r ∧ Fin64 r ∧ fv r = rn (fv x - fv y) := by
  obtain ⟨m, i, rx, hi, mx⟩ := read_fin hx
  obtain ⟨n, j, ry, hj, my⟩ := read_fin hy
  unfold Format.sub
  rw [rx, ry]
  exact sum_word hi hj (by rw [signed_not, fv_read mx, fv_read my]; omega) hb
theorem signed_prod (s t : Bool) (m n a b : Nat) : signed s m a * signed t n b = signed (s ^^ t) (m * n) (a + b) := by
  unfold signed
  rw [Nat.shiftLeft_eq, Nat.shiftLeft_eq, Nat.shiftLeft_eq, Nat.pow_add]
  have e : m * n * (2 ^ a * 2 ^ b) = (m * 2 ^ a) * (n * 2 ^ b) := by ac_rfl
  rw [e]
  generalize m * 2 ^ a = A
  generalize n * 2 ^ b = B
  cases s <;> cases t <;> simp [Int.neg_mul, Int.mul_neg]
theorem signed_abs (s : Bool) (m a : Nat) : (signed s m a).natAbs = m * 2 ^ a := by
  unfold signed
  rw [Nat.shiftLeft_eq]
  split <;> omega
theorem signed_neg (s : Bool) (m a : Nat) : signed s m a < 0 ↔ s = true ∧ m ≠ 0 := by
  unfold signed
  rw [Nat.shiftLeft_eq]
  have p := Nat.two_pow_pos a
  by_cases hm : m = 0
  · subst hm; cases s <;> simp
  · have := Nat.mul_pos (Nat.pos_of_ne_zero hm) p
    generalize m * 2 ^ a = A at *
    cases s
    · simp
    · simp only [if_true, true_and, hm, ne_eq, not_false_iff, iff_true]; omega
theorem mul_word {x y : Nat} (hx : Fin64 x) (hy : Fin64 y) {z : Int} (hz : fv x * fv y = z * 2 ^ 1074) (hb : (rn z).natAbs < 9007199254740992 * 2 ^ 2045) :
    ∃ r, double.mul x y = some r ∧ Fin64 r ∧ fv r = rn z := by
  obtain ⟨m, i, rx, hi, mx⟩ := read_fin hx
  obtain ⟨n, j, ry, hj, my⟩ := read_fin hy
  rw [fv_read mx, fv_read my, signed_prod] at hz
  unfold Format.mul
  rw [rx, ry]
  generalize (x / 9223372036854775808 % 2 == 1) = s at *
  generalize (y / 9223372036854775808 % 2 == 1) = t at *
  simp only [Datum.product, Option.map]
  set_option exponentiation.threshold 100000 in have e : (2 : Int) ^ 1074 = ((2 ^ 1074 : Nat) : Int) := by rw [Int.natCast_pow]; rfl
  rw [e] at hz
  have hn : m * n * 2 ^ ((i + 1074).toNat + (j + 1074).toNat) = z.natAbs * 2 ^ 1074 := by
    have := congrArg Int.natAbs hz
    rw [signed_abs, Int.natAbs_mul, Int.natAbs_natCast] at this
    exact this
  rw [rn_abs] at hb
  refine ⟨_, rfl, ?_⟩
  have := nearest_val (neg := s ^^ t) (mag := m * n) (n := z.natAbs) (t := 1074) (e := (i + 1074).toNat + (j + 1074).toNat) (place := i + j) (by omega) hn hb
  refine ⟨this.1, this.2.trans ?_⟩
  have hneg := neg_mul_pow z 1074
  rw [← hz, signed_neg] at hneg
  unfold rn
  by_cases h0 : m * n = 0
  · have hz0 : z = 0 := by
      rw [h0, Nat.zero_mul] at hn
      have := Nat.two_pow_pos 1074
      rcases Nat.mul_eq_zero.1 hn.symm with h | h
      · omega
      · generalize 2 ^ 1074 = W at *; omega
    rw [hz0, show Int.natAbs 0 = 0 from rfl, rnN_zero]
    split <;> split <;> rfl
  · by_cases hs : (s ^^ t) = true
    · rw [if_pos hs, if_pos (hneg.1 ⟨hs, h0⟩)]
    · rw [if_neg hs, if_neg (fun h => hs (hneg.2 h).1)]
theorem order_word {x y : Nat} (hx : Fin64 x) (hy : Fin64 y) : double.order x y = some (compare (fv x) (fv y)) := by
  obtain ⟨m, i, rx, hi, mx⟩ := read_fin hx
  obtain ⟨n, j, ry, hj, my⟩ := read_fin hy
  unfold Format.order
  rw [rx, ry, fv_read mx, fv_read my]
  simp only [Datum.order]
  congr 1
  have a := signed_mul (x / 9223372036854775808 % 2 == 1) m (i - min i j).toNat (min i j + 1074).toNat
  have b := signed_mul (y / 9223372036854775808 % 2 == 1) n (j - min i j).toNat (min i j + 1074).toNat
  rw [show (i - min i j).toNat + (min i j + 1074).toNat = (i + 1074).toNat by omega] at a
  rw [show (j - min i j).toNat + (min i j + 1074).toNat = (j + 1074).toNat by omega] at b
  rw [← a, ← b]
  have p : (0 : Int) < ((2 ^ (min i j + 1074).toNat : Nat) : Int) := by have := Nat.two_pow_pos (min i j + 1074).toNat; omega
  generalize ((2 ^ (min i j + 1074).toNat : Nat) : Int) = W at *
  generalize signed _ _ _ = A
  generalize signed _ _ _ = B
  simp only [compare, compareOfLessAndEq]
  have h1 : A < B ↔ A * W < B * W := ⟨fun h => Int.mul_lt_mul_of_pos_right h p, fun h => Int.lt_of_mul_lt_mul_right h (Int.le_of_lt p)⟩
  have h2 : A = B ↔ A * W = B * W := ⟨fun h => by rw [h], fun h => Int.eq_of_mul_eq_mul_right (by omega) h⟩
  simp only [h1, h2]
end
section
structure Hd (p : Prop) : Prop where
  out : p
theorem hid {p : Prop} (h : p) : Hd p := ⟨h⟩
theorem prod_err {u v a b : Int} (h1 : 9007199254740992 * (u - a).natAbs ≤ u.natAbs) (h2 : 9007199254740992 * (v - b).natAbs ≤ v.natAbs) :
    81129638414606681695789005144064 * (u * v - a * b).natAbs ≤ 18014398509481985 * (u * v).natAbs := by
  have e : u * v - a * b = u * (v - b) + (u - a) * v - (u - a) * (v - b) := by
    simp only [Int.mul_sub, Int.sub_mul]; omega
  have n1 : (u * v).natAbs = u.natAbs * v.natAbs := Int.natAbs_mul _ _
  have n2 : (u * (v - b)).natAbs = u.natAbs * (v - b).natAbs := Int.natAbs_mul _ _
  have n3 : ((u - a) * v).natAbs = (u - a).natAbs * v.natAbs := Int.natAbs_mul _ _
  have n4 : ((u - a) * (v - b)).natAbs = (u - a).natAbs * (v - b).natAbs := Int.natAbs_mul _ _
  have a1 := Nat.mul_le_mul_left u.natAbs h2
  have a2 := Nat.mul_le_mul_right v.natAbs h1
  have a3 := Nat.mul_le_mul h1 h2
  rw [Nat.mul_left_comm] at a1
  rw [Nat.mul_assoc] at a2
  rw [Nat.mul_assoc, Nat.mul_left_comm (u - a).natAbs] at a3
  have tri : (u * (v - b) + (u - a) * v - (u - a) * (v - b)).natAbs ≤ (u * (v - b)).natAbs + ((u - a) * v).natAbs + ((u - a) * (v - b)).natAbs := by omega
  rw [e, n1]
  refine Nat.le_trans (Nat.mul_le_mul_left _ tri) ?_
  rw [n2, n3, n4]
  clear tri n1 n2 n3 n4 e h1 h2
  generalize u.natAbs * v.natAbs = P at *
  generalize u.natAbs * (v - b).natAbs = Q at *
  generalize (u - a).natAbs * v.natAbs = R at *
  generalize (u - a).natAbs * (v - b).natAbs = S at *
  omega
theorem abs_lin {c : Nat} {x : Int} {K : Nat} (h : c * x.natAbs ≤ K) : (c : Int) * x ≤ K ∧ -((c : Int) * x) ≤ K := by
  have e : (c * x.natAbs : Nat) = (((c : Int) * x).natAbs) := by rw [Int.natAbs_mul, Int.natAbs_natCast]
  omega
theorem rel_lin (z : Int) : 9007199254740992 * (rn z - z) ≤ ((rn z).natAbs : Int) ∧ 9007199254740992 * (z - rn z) ≤ ((rn z).natAbs : Int) ∧ 9007199254740992 * (rn z - z) ≤ (z.natAbs : Int) ∧ 9007199254740992 * (z - rn z) ≤ (z.natAbs : Int) ∧
    9007199254740992 * (z.natAbs : Int) ≤ 9007199254740993 * ((rn z).natAbs : Int) ∧ 9007199254740992 * ((rn z).natAbs : Int) ≤ 9007199254740993 * (z.natAbs : Int) := by
  have h1 := rn_rel z
  have h2 := rnN_rel z.natAbs
  rw [← rn_abs] at h2
  have h3 := abs_lin h1.1
  have h4 := abs_lin h1.2
  refine ⟨?_, ?_, ?_, ?_, ?_, ?_⟩ <;> omega
theorem prod_lin {u v a b : Int} (h1 : 9007199254740992 * (u - a).natAbs ≤ u.natAbs) (h2 : 9007199254740992 * (v - b).natAbs ≤ v.natAbs) :
    81129638414606681695789005144064 * (u * v - a * b) ≤ 18014398509481985 * ((u * v).natAbs : Int) ∧ 81129638414606681695789005144064 * (a * b - u * v) ≤ 18014398509481985 * ((u * v).natAbs : Int) := by
  have h := prod_err h1 h2
  have := abs_lin h
  constructor <;> omega
theorem side_a {l m e M L : Int} (h1 : 81129638414606681695789005144064 * (m - e) ≤ 18014398509481985 * M) (h2 : 9007199254740992 * (l - m) ≤ L) (h3 : 9007199254740992 * M ≤ 9007199254740993 * L) : 730750818665451459101842416358141509827966271488 * (l - e) ≤ 243388915243820072108964779655169 * L := by omega
theorem side_a' {l m e M L : Int} (h1 : 81129638414606681695789005144064 * (e - m) ≤ 18014398509481985 * M) (h2 : 9007199254740992 * (m - l) ≤ L) (h3 : 9007199254740992 * M ≤ 9007199254740993 * L) : 730750818665451459101842416358141509827966271488 * (e - l) ≤ 243388915243820072108964779655169 * L := by omega
theorem side_b {x M L : Int} (h1 : 81129638414606681695789005144064 * x ≤ 18014398509481985 * M) (h3 : 9007199254740992 * M ≤ 9007199254740993 * L) : 730750818665451459101842416358141509827966271488 * x ≤ 162259276829213390413175774511105 * L := by omega
theorem comb {c K l e r f L R : Int} (h1 : c * (l - e) ≤ K * L) (h2 : c * (f - r) ≤ K * R) : c * (l - r - (e - f)) ≤ K * (L + R) := by
  have e1 : c * (l - r - (e - f)) = c * (l - e) + c * (f - r) := by rw [← Int.mul_add]; congr 1; omega
  rw [e1, Int.mul_add]
  omega
theorem end_1 {Y S s : Int} (h1 : 730750818665451459101842416358141509827966271488 * Y ≤ 243388915243820072108964779655169 * S) (h2 : 9007199254740992 * S ≤ 9007199254740993 * s) : 6582018229284824168619876730229402019930943462534319453394436096 * Y ≤ 2192252455996354864083357736714550733014948642817 * s := by omega
theorem end_x {c K E1 X s z T D : Int} (hc : 0 ≤ c) (h3 : c * z = K * s) (h4 : 9007199254740992 * (z - T) ≤ z) (h5 : T ≤ D) (h6 : 9007199254740992 * D ≤ 9007199254740993 * X) (_ : E1 = E1) : K * (9007199254740991 * s) ≤ c * (9007199254740993 * X) := by
  have a : 9007199254740991 * z ≤ 9007199254740993 * X := by clear h3 hc; omega
  have b := Int.mul_le_mul_of_nonneg_left a hc
  rw [Int.mul_left_comm, h3, Int.mul_left_comm] at b
  exact b
theorem end_2 {X s z T D : Int} (h3 : 81129638414606681695789005144064 * z = 27021597764222992 * s) (h4 : 9007199254740992 * (z - T) ≤ z) (h5 : T ≤ D) (h6 : 9007199254740992 * D ≤ 9007199254740993 * X) : 243388915243820162180957327065072 * s ≤ 730750818665451540231480830964823205616971415552 * X := by
  have b := end_x (E1 := 0) (by decide) h3 h4 h5 h6 rfl
  clear h3 h4 h5 h6
  omega
theorem end_3 {X e s : Int} (h1 : 6582018229284824168619876730229402019930943462534319453394436096 * (X - e) ≤ 2192252455996354864083357736714550733014948642817 * s) (h2 : 243388915243820162180957327065072 * s ≤ 730750818665451540231480830964823205616971415552 * X) (h7 : 0 < s) : 0 < e := by omega
theorem end_a {X e L R s z T D : Int} (h1 : 730750818665451459101842416358141509827966271488 * (X - e) ≤ 243388915243820072108964779655169 * (L + R)) (h2 : 9007199254740992 * (L + R) ≤ 9007199254740993 * s) (h3 : 81129638414606681695789005144064 * z = 27021597764222992 * s) (h4 : 9007199254740992 * (z - T) ≤ z) (h5 : T ≤ D) (h6 : 9007199254740992 * D ≤ 9007199254740993 * X) (h7 : 0 < s) : 0 < e :=
  end_3 (end_1 h1 h2) (end_2 h3 h4 h5 h6) h7
theorem end_4 {Y S s : Int} (h1 : 730750818665451459101842416358141509827966271488 * Y ≤ 162259276829213390413175774511105 * S) (h2 : 9007199254740992 * S ≤ 9007199254740993 * s) : 6582018229284824168619876730229402019930943462534319453394436096 * Y ≤ 1461501637330903323851876905749727527397977227265 * s := by omega
theorem end_5 {X s z T D : Int} (h3 : 81129638414606681695789005144064 * z = 18014398509481996 * s) (h4 : 9007199254740992 * (z - T) ≤ z) (h5 : T ≤ D) (h6 : 9007199254740992 * D ≤ 9007199254740993 * X) : 162259276829213453463570557698036 * s ≤ 730750818665451540231480830964823205616971415552 * X := by
  have b := end_x (E1 := 0) (by decide) h3 h4 h5 h6 rfl
  clear h3 h4 h5 h6
  omega
theorem end_6 {X e s : Int} (h1 : 6582018229284824168619876730229402019930943462534319453394436096 * (X - e) ≤ 1461501637330903323851876905749727527397977227265 * s) (h2 : 162259276829213453463570557698036 * s ≤ 730750818665451540231480830964823205616971415552 * X) (h7 : 0 < s) : 0 < e := by omega
theorem end_b {H e L R s z T D : Int} (h1 : 730750818665451459101842416358141509827966271488 * (H - e) ≤ 162259276829213390413175774511105 * (L + R)) (h2 : 9007199254740992 * (L + R) ≤ 9007199254740993 * s) (h3 : 81129638414606681695789005144064 * z = 18014398509481996 * s) (h4 : 9007199254740992 * (z - T) ≤ z) (h5 : T ≤ D) (h6 : 9007199254740992 * D ≤ 9007199254740993 * H) (h7 : 0 < s) : 0 < e :=
  end_6 (end_4 h1 h2) (end_5 h3 h4 h5 h6) h7
theorem pos_mul {c K z s : Int} (hc : 0 < c) (hK : 0 < K) (h : c * z = K * s) (hs : 0 < s) : 0 < z := by
  have h1 : 0 < c * z := h ▸ Int.mul_pos hK hs
  rcases Int.lt_or_le 0 z with g | g
  · exact g
  · have := Int.mul_le_mul_of_nonneg_left g (Int.le_of_lt hc)
    rw [Int.mul_zero] at this
    omega
theorem rn_nonneg {z : Int} (h : 0 ≤ z) : 0 ≤ rn z := by
  have := rn_mono h
  rw [rn_zero] at this
  exact this
theorem sum_pos {l r s : Int} (hs : s = rn ((l.natAbs : Int) + (r.natAbs : Int))) (hl : l ≠ 0) : 0 < s ∧ 9007199254740992 * ((l.natAbs : Int) + (r.natAbs : Int)) ≤ 9007199254740993 * s := by
  have h0 : 0 < (l.natAbs : Int) + (r.natAbs : Int) := by omega
  have h1 := rn_sign_pos h0
  have h2 := (rel_lin ((l.natAbs : Int) + (r.natAbs : Int))).2.2.2.2.1
  rw [← hs] at h1 h2
  refine ⟨h1, ?_⟩
  rw [Int.natAbs_of_nonneg (a := s) (by omega), Int.natAbs_of_nonneg (a := (l.natAbs : Int) + (r.natAbs : Int)) (by omega)] at h2
  exact h2
theorem stage_a {a1 b1 a2 b2 d s z : Int} (hs : s = rn (((rn (rn a1 * rn b2)).natAbs : Int) + ((rn (rn b1 * rn a2)).natAbs : Int))) (hd : d = rn (rn (rn a1 * rn b2) - rn (rn b1 * rn a2)))
    (hz : 81129638414606681695789005144064 * z = 27021597764222992 * s) (hl : rn (rn a1 * rn b2) ≠ 0) (hb : rn z ≤ (d.natAbs : Int)) :
    (0 < d → 0 < a1 * b2 - b1 * a2) ∧ (d < 0 → a1 * b2 - b1 * a2 < 0) ∧ d ≠ 0 := by
  have p1 := prod_lin (rn_rel a1).2 (rn_rel b2).2
  have p2 := prod_lin (rn_rel b1).2 (rn_rel a2).2
  have q1 := rel_lin (rn a1 * rn b2)
  have q2 := rel_lin (rn b1 * rn a2)
  obtain ⟨s0, s1⟩ := sum_pos hs hl
  generalize rn a1 * rn b2 = m1 at *
  generalize rn b1 * rn a2 = m2 at *
  generalize a1 * b2 = e1 at *
  generalize b1 * a2 = e2 at *
  have u1 := side_a p1.1 q1.1 q1.2.2.2.2.1
  have u2 := side_a' p1.2 q1.2.1 q1.2.2.2.2.1
  have u3 := side_a p2.1 q2.1 q2.2.2.2.2.1
  have u4 := side_a' p2.2 q2.2.1 q2.2.2.2.2.1
  clear p1 p2 q1 q2 hs
  have z1 : 0 < z := pos_mul (by decide) (by decide) hz s0
  have z0 : 0 ≤ z := Int.le_of_lt z1
  have q5 := (rel_lin z).2.2.2.1
  rw [Int.natAbs_of_nonneg z0] at q5
  have T0 : 0 < rn z := rn_sign_pos z1
  have q3 := (rel_lin (rn m1 - rn m2)).2.2.2.2.2
  rw [← hd] at q3
  have c1 := comb u1 u4
  have c2 := comb u3 u2
  rw [Int.add_comm ((rn m2).natAbs : Int)] at c2
  clear u1 u2 u3 u4
  replace hz := hid hz
  replace s1 := hid s1
  replace q5 := hid q5
  replace c1 := hid c1
  replace c2 := hid c2
  refine ⟨fun h => ?_, fun h => ?_, fun h => by subst h; omega⟩
  · have hx : 0 < rn m1 - rn m2 := by
      rcases Int.lt_trichotomy 0 (rn m1 - rn m2) with g | g | g
      · exact g
      · rw [← g, rn_zero] at hd; omega
      · have := rn_sign_neg g; omega
    rw [Int.natAbs_of_nonneg (a := rn m1 - rn m2) (by omega), Int.natAbs_of_nonneg (a := d) (by omega)] at q3
    rw [Int.natAbs_of_nonneg (a := d) (by omega)] at hb
    exact end_a (X := rn m1 - rn m2) c1.out s1.out hz.out q5.out hb q3 s0
  · have hx : rn m1 - rn m2 < 0 := by
      rcases Int.lt_trichotomy 0 (rn m1 - rn m2) with g | g | g
      · have := rn_sign_pos g; omega
      · rw [← g, rn_zero] at hd; omega
      · exact g
    rw [show ((rn m1 - rn m2).natAbs : Int) = rn m2 - rn m1 by omega, show (d.natAbs : Int) = -d by omega] at q3
    rw [show (d.natAbs : Int) = -d by omega] at hb
    have := end_a (X := rn m2 - rn m1) (e := e2 - e1) c2.out s1.out hz.out q5.out hb q3 s0
    omega
theorem stage_b {a1 b1 a2 b2 s z : Int} (hs : s = rn (((rn (rn a1 * rn b2)).natAbs : Int) + ((rn (rn b1 * rn a2)).natAbs : Int)))
    (hz : 81129638414606681695789005144064 * z = 18014398509481996 * s) (hl : rn (rn a1 * rn b2) ≠ 0) (hb : rn z ≤ ((rn (rn a1 * rn b2 - rn b1 * rn a2)).natAbs : Int)) :
    (0 < rn a1 * rn b2 - rn b1 * rn a2 → 0 < a1 * b2 - b1 * a2) ∧ (rn a1 * rn b2 - rn b1 * rn a2 < 0 → a1 * b2 - b1 * a2 < 0) ∧ rn a1 * rn b2 - rn b1 * rn a2 ≠ 0 := by
  have p1 := prod_lin (rn_rel a1).2 (rn_rel b2).2
  have p2 := prod_lin (rn_rel b1).2 (rn_rel a2).2
  have q1 := (rel_lin (rn a1 * rn b2)).2.2.2.2.1
  have q2 := (rel_lin (rn b1 * rn a2)).2.2.2.2.1
  obtain ⟨s0, s1⟩ := sum_pos hs hl
  generalize rn a1 * rn b2 = m1 at *
  generalize rn b1 * rn a2 = m2 at *
  generalize a1 * b2 = e1 at *
  generalize b1 * a2 = e2 at *
  have u1 := side_b p1.1 q1
  have u2 := side_b p1.2 q1
  have u3 := side_b p2.1 q2
  have u4 := side_b p2.2 q2
  clear p1 p2 q1 q2 hs
  have z1 : 0 < z := pos_mul (by decide) (by decide) hz s0
  have z0 : 0 ≤ z := Int.le_of_lt z1
  have q5 := (rel_lin z).2.2.2.1
  rw [Int.natAbs_of_nonneg z0] at q5
  have T0 : 0 < rn z := rn_sign_pos z1
  have q3 := (rel_lin (m1 - m2)).2.2.2.2.2
  have c1 := comb u1 u4
  have c2 := comb u3 u2
  rw [Int.add_comm ((rn m2).natAbs : Int)] at c2
  clear u1 u2 u3 u4
  replace hz := hid hz
  replace s1 := hid s1
  replace q5 := hid q5
  replace c1 := hid c1
  replace c2 := hid c2
  refine ⟨fun h => ?_, fun h => ?_, fun h => by rw [h, rn_zero] at hb; omega⟩
  · have := rn_sign_pos h
    rw [Int.natAbs_of_nonneg (a := m1 - m2) (by omega), Int.natAbs_of_nonneg (a := rn (m1 - m2)) (by omega)] at q3
    rw [Int.natAbs_of_nonneg (a := rn (m1 - m2)) (by omega)] at hb
    exact end_b (H := m1 - m2) c1.out s1.out hz.out q5.out hb q3 s0
  · have := rn_sign_neg h
    rw [show ((m1 - m2).natAbs : Int) = m2 - m1 by omega, show ((rn (m1 - m2)).natAbs : Int) = -rn (m1 - m2) by omega] at q3
    rw [show ((rn (m1 - m2)).natAbs : Int) = -rn (m1 - m2) by omega] at hb
    have := end_b (H := m2 - m1) (e := e2 - e1) c2.out s1.out hz.out q5.out hb q3 s0
    omega
end
end Go.Proofs.YtllapbkoildfiaaGreatFmt
