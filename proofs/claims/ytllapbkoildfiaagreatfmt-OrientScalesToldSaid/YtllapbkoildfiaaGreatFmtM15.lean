/- Natural numbers of big: bitLen and trailingZeroBits · Natural numbers of big: trailingZeroBits, low64, msb64, cmp · Natural numbers of big: cmp · big.Int in memory: what it is, and what its functions leave · The walks of Int's Lsh, Rsh · The walks of Int's Rsh, BitLen, TrailingZeroBits, Sign, Int64 · The walks of Int's Set, Neg, Abs. -/
import Derived.Test.YtllapbkoildfiaaGreatFmtM13
import Derived.Test.YtllapbkoildfiaaGreatFmtM14
import Derived.Test.YtllapbkoildfiaaGreatFmtM06
set_option linter.all false
namespace Go.Proofs.YtllapbkoildfiaaGreatFmt
section
open Go.RowKit
theorem or_int {x k : Nat} (hx : x < 18446744073709551616) : bits .or .u64 (x : Int) ((x / 2 ^ k : Nat) : Int) = ((x ||| x / 2 ^ k : Nat) : Int) :=
  u64_or_nat _ _ hx (Nat.lt_of_le_of_lt (Nat.div_le_self _ _) hx)
set_option maxRecDepth 100000 in
set_option maxHeartbeats 1000000 in
theorem bitLen_some (xb xc m : Nat) (x : Nat → Nat) (w : World) (hx : Wd w xb 0 (m + 1) x) (hm : m + 1 ≤ 1000000) :
    Calls Tryz.prog 160 #[.slice (some ⟨xb, 0, none⟩) (m + 1) xc] w fun e w' => e = .returned (.int .i64 ((m * 64 + bl (x m) : Nat) : Int)) ∧ w = w' := by
  have hc := hx m (by omega)
  rw [Nat.zero_add] at hc
  have cx := hc.1
  have hlt := hc.2.2
  clear hc
  generalize x m = a at *
  have b1 := bl_or a 1
  have l1 := or_lt64 (k := 1) hlt
  have h1 := or_int (k := 1) hlt
  generalize a ||| a / 2 ^ 1 = a1 at *
  have b2 := bl_or a1 2
  have l2 := or_lt64 (k := 2) l1
  have h2 := or_int (k := 2) l1
  generalize a1 ||| a1 / 2 ^ 2 = a2 at *
  have b3 := bl_or a2 4
  have l3 := or_lt64 (k := 4) l2
  have h3 := or_int (k := 4) l2
  generalize a2 ||| a2 / 2 ^ 4 = a3 at *
  have b4 := bl_or a3 8
  have l4 := or_lt64 (k := 8) l3
  have h4 := or_int (k := 8) l3
  generalize a3 ||| a3 / 2 ^ 8 = a4 at *
  have b5 := bl_or a4 16
  have l5 := or_lt64 (k := 16) l4
  have h5 := or_int (k := 16) l4
  generalize a4 ||| a4 / 2 ^ 16 = a5 at *
  have b6 := bl_or a5 32
  have l6 := or_lt64 (k := 32) l5
  have h6 := or_int (k := 32) l5
  generalize a5 ||| a5 / 2 ^ 32 = a6 at *
  have g1 : bits .or .u64 (a : Int) ((a : Int) / 2) = (a1 : Int) := h1
  have g2 : bits .or .u64 (a1 : Int) ((a1 : Int) / 4) = (a2 : Int) := h2
  have g3 : bits .or .u64 (a2 : Int) ((a2 : Int) / 16) = (a3 : Int) := h3
  have g4 : bits .or .u64 (a3 : Int) ((a3 : Int) / 256) = (a4 : Int) := h4
  have g5 : bits .or .u64 (a4 : Int) ((a4 : Int) / 65536) = (a5 : Int) := h5
  have g6 : bits .or .u64 (a5 : Int) ((a5 : Int) / 65536 / 65536) = (a6 : Int) := by
    rw [← h6, show (a5 : Int) / 65536 / 65536 = ((a5 / 2 ^ 32 : Nat) : Int) by omega]
  have hL := len_any a6 l6
  rw [bl_lib l6, b6, b5, b4, b3, b2, b1] at hL
  have hbl := bl_le (x := a) (k := 64) hlt
  generalize bl a = q at *
  clear b1 b2 b3 b4 b5 b6 h1 h2 h3 h4 h5 h6 l1 l2 l3 l4 l5 l6 hx
  go_enter Tryz.func160, Tryz.ntmps160
  go_wp2_with (go_at_call 191; refine (hL _).mono ?_; rintro e w' ⟨rfl, rfl⟩)
  go_ret
  exact ⟨ret_int (by omega), rfl⟩
theorem bitLen_none (a : Option Addr) (c : Nat) (w : World) : Calls Tryz.prog 160 #[.slice a 0 c] w fun e w' => e = .returned (.int .i64 0) ∧ w = w' := by
  go_enter Tryz.func160, Tryz.ntmps160
  go_wp2_with fail
  go_ret
  exact ⟨rfl, rfl⟩
theorem bitLen_any (xo : Option (Nat × Nat)) (m : Nat) (x : Nat → Nat) (w : World) (hx : Nt w xo m x) (hx0 : Nrm x m) (hm : m ≤ 100000) :
    Calls Tryz.prog 160 #[nv xo m] w fun e w' => e = .returned (.int .i64 ((bl (vl x m) : Nat) : Int)) ∧ w = w' := by
  rcases Nat.eq_zero_or_pos m with rfl | hm1
  · rcases xo with _ | ⟨b, c⟩
    · exact bitLen_none none 0 w
    · exact bitLen_none _ c w
  · rcases xo with _ | ⟨b, c⟩
    · have : m = 0 := hx; omega
    · obtain ⟨k, rfl⟩ : ∃ k, m = k + 1 := ⟨m - 1, by omega⟩
      rw [bl_vl hx.bd (by have := hx0.resolve_left (by omega); simpa using this)]
      exact bitLen_some b c k x w (hx.2.2.2.1.mono hx.1) (by omega)
end
section
open Go.RowKit
theorem ctz_spec {a : Nat} (ha : a ≠ 0) (hlt : a < 18446744073709551616) : ∃ p, a = 2 ^ Lib.ctz 64 a * (2 * p + 1) ∧ Lib.ctz 64 a < 64 := by
  unfold Lib.ctz
  rw [if_neg ha]
  exact Lib.ctzFrom_spec 64 a (by omega) hlt
theorem vl_tz {x : Nat → Nat} {m k : Nat} (hk : k < m) (h0 : ∀ j, j < k → x j = 0) (hx : x k ≠ 0) (hlt : x k < 18446744073709551616) : ∃ q, vl x m = 2 ^ (k * 64 + Lib.ctz 64 (x k)) * (2 * q + 1) := by
  obtain ⟨p, he, hc⟩ := ctz_spec hx hlt
  obtain ⟨r, rfl⟩ : ∃ r, m = k + (1 + r) := ⟨m - k - 1, by omega⟩
  have e64 : (18446744073709551616 : Nat) = 2 ^ 64 := by decide
  have hz : vl x k = 0 := by
    rw [vl_congr (g := fun _ => 0) h0, vl_zeros]
  rw [vl_add, hz, vl_add, vl_one, Nat.zero_add, Nat.add_zero, e64, ← Nat.pow_mul, Nat.pow_one]
  generalize vl (fun i => x (k + (1 + i))) r = R
  generalize hcq : Lib.ctz 64 (x k) = c at *
  obtain ⟨d, hd⟩ : ∃ d, 64 = c + 1 + d := ⟨63 - c, by omega⟩
  refine ⟨p + 2 ^ d * R, ?_⟩
  rw [he, show (2 : Nat) ^ 64 = 2 ^ c * (2 * 2 ^ d) by conv => lhs; rw [hd, Nat.pow_add, Nat.pow_succ, Nat.mul_assoc]]
  rw [Nat.mul_assoc (2 ^ c), ← Nat.mul_add, ← Nat.mul_assoc, ← Nat.pow_add, Nat.mul_comm 64 k]
  congr 1
  rw [Nat.mul_assoc]
  omega
set_option maxRecDepth 100000 in
set_option maxHeartbeats 1000000 in
theorem tzb_some (xb xc m : Nat) (x : Nat → Nat) (w : World) (hx : Wd w xb 0 m x) (hm1 : 1 ≤ m) (hm : m ≤ 100000) (hx0 : Nrm x m) (hT : Tab w) :
    Calls Tryz.prog 158 #[.slice (some ⟨xb, 0, none⟩) m xc] w fun e w' => ∃ t : Nat, e = .returned (.int .u64 (t : Nat)) ∧ Hid (∃ q, vl x m = 2 ^ t * (2 * q + 1)) ∧ t < m * 64 ∧ w = w' := by
  have hn : x (m - 1) ≠ 0 := hx0.resolve_left (by omega)
  replace hT := Lib.hid hT
  replace hn := Lib.hid hn
  have m0 : ((m : Int) == 0) = false := beq0_false (by omega)
  go_enter Tryz.func158, Tryz.ntmps158
  go_wp2_with fail
  go_loop [3] (fun vi => ∃ k : Nat, k < m ∧ vi = .int .u64 (k : Nat) ∧ Hid (∀ j, j < k → x j = 0)) (fun vi => m - (intOf vi).toNat)
  case atStart => exact ⟨0, by omega, rfl, (show Hid _ from fun j h => absurd h (Nat.not_lt_zero _))⟩
  case round =>
    obtain ⟨k, hk, rfl, hz⟩ := hrel
    have hc := hx k hk
    rw [Nat.zero_add] at hc
    have cx := hc.1
    have hlt := hc.2.2
    clear hc
    by_cases h0 : x k = 0
    · have b0 := beq0_true h0
      have hk1 : k + 1 < m := by
        rcases Nat.lt_or_ge (k + 1) m with g | g
        · exact g
        · have : m - 1 = k := by omega
          exact absurd h0 (by rw [← this]; exact hn.out)
      have hz' : Hid (∀ j, j < k + 1 → x j = 0) := Lib.hid fun j hj => by
        rcases Nat.lt_or_ge j k with g | g
        · exact hz.out j g
        · obtain rfl : j = k := by omega
          exact h0
      replace h0 := Lib.hid h0
      go_wp2_with fail
      all_goals go_round
      case rel => exact ⟨k + 1, hk1, by go_num, hz'⟩
      case measure => simp [intOf]; omega
    · have b0 := beq0_false h0
      have ht := tz_any (x k) hlt h0 w hT.out
      have hq := Lib.hid (vl_tz hk hz.out h0 hlt)
      have hc := (ctz_spec h0 hlt).choose_spec.2
      generalize Lib.ctz 64 (x k) = c at *
      clear hz h0
      go_wp2_with (go_at_call 189; refine ht.mono ?_; rintro e w' ⟨rfl, rfl⟩)
      go_ret
      exact ⟨k * 64 + c, by rw [show (((k * 64 + c : Nat)) : Int) = (k : Int) * 64 + (c : Int) by omega]; rfl, hq, by omega, rfl⟩
theorem low64_some (xb xc m : Nat) (x : Nat → Nat) (w : World) (hx : Wd w xb 0 m x) (hm1 : 1 ≤ m) (hm : m ≤ 100000) :
    Calls Tryz.prog 161 #[.slice (some ⟨xb, 0, none⟩) m xc] w fun e w' => e = .returned (.int .u64 (x 0 : Nat)) ∧ w = w' := by
  have hc := hx 0 (by omega)
  rw [Nat.zero_add] at hc
  have cx := hc.1
  have hlt := hc.2.2
  have m0 : ((m : Int) == 0) = false := beq0_false (by omega)
  clear hc hx
  go_enter Tryz.func161, Tryz.ntmps161
  go_wp2_with fail
  go_ret
  exact ⟨rfl, rfl⟩
theorem low64_none (a : Option Addr) (c : Nat) (w : World) : Calls Tryz.prog 161 #[.slice a 0 c] w fun e w' => e = .returned (.int .u64 0) ∧ w = w' := by
  go_enter Tryz.func161, Tryz.ntmps161
  go_wp2_with fail
  go_ret
  exact ⟨rfl, rfl⟩
end
section
open Go.RowKit
def cmpN (a b : Nat) : Int := if a < b then -1 else if b < a then 1 else 0
theorem vl_cmp_lt {x y : Nat → Nat} {m k : Nat} (hk : k < m) (hx : ∀ i, i < m → x i < 18446744073709551616) (he : ∀ j, k < j → j < m → x j = y j) (h : x k < y k) : vl x m < vl y m := by
  obtain ⟨r, rfl⟩ : ∃ r, m = k + 1 + r := ⟨m - k - 1, by omega⟩
  have e : vl (fun i => x (k + 1 + i)) r = vl (fun i => y (k + 1 + i)) r := vl_congr fun i hi => he (k + 1 + i) (by omega) (by omega)
  rw [vl_add x (k + 1) r, vl_add y (k + 1) r, e, vl_succ x k, vl_succ y k]
  have h1 := vl_lt (f := x) (n := k) fun i hi => hx i (by omega)
  have h2 : (x k + 1) * 18446744073709551616 ^ k ≤ y k * 18446744073709551616 ^ k := Nat.mul_le_mul_right _ h
  rw [Nat.add_mul] at h2
  omega
theorem vl_cmp_eq {x y : Nat → Nat} {m : Nat} (he : ∀ j, 0 < j → j < m → x j = y j) (h : x 0 = y 0) : vl x m = vl y m :=
  vl_congr fun i hi => by
    rcases Nat.eq_zero_or_pos i with g | g
    · subst g; exact h
    · exact he i g hi
theorem beq_true {a b : Nat} (h : a = b) : ((a : Int) == (b : Int)) = true := by subst h; simp
theorem beq_false {a b : Nat} (h : a ≠ b) : ((a : Int) == (b : Int)) = false := by
  cases g : ((a : Int) == (b : Int)) with
  | false => rfl
  | true => exact absurd (by have : (a : Int) = (b : Int) := by simpa using g
                             omega) h
set_option maxRecDepth 100000 in
set_option maxHeartbeats 2000000 in
theorem cmp_same (xb xc yb yc m : Nat) (x y : Nat → Nat) (w : World) (hx : Wd w xb 0 m x) (hy : Wd w yb 0 m y) (hm1 : 1 ≤ m) (hm : m ≤ 100000) :
    Calls Tryz.prog 162 #[.slice (some ⟨xb, 0, none⟩) m xc, .slice (some ⟨yb, 0, none⟩) m yc] w fun e w' => e = .returned (.int .i64 (cmpN (vl x m) (vl y m))) ∧ ∃ q, w' = w.drewN q := by
  have m0 : ((m : Int) == 0) = false := beq0_false (by omega)
  go_enter Tryz.func162, Tryz.ntmps162
  go_wp2_with fail
  go_loopw [7] (fun vi wr => ∃ k q : Nat, k < m ∧ vi = .int .i64 (k : Nat) ∧ wr = w.drewN q ∧ Hid (∀ j, k < j → j < m → x j = y j)) (fun vi _ => (intOf vi).toNat)
  case atStart => exact ⟨m - 1, 0, by omega, by rw [show ((m - 1 : Nat) : Int) = (m : Int) - 1 by omega], rfl, (show Hid _ from fun j h1 h2 => by omega)⟩
  case round =>
    obtain ⟨k, q, hk, rfl, rfl, he⟩ := hrel
    have hcx := hx k hk
    have hcy := hy k hk
    rw [Nat.zero_add] at hcx hcy
    have cx : (w.drewN q).cell? ⟨xb, k, none⟩ = some (.int .u64 (x k : Nat)) := hcx.1
    have cy : (w.drewN q).cell? ⟨yb, k, none⟩ = some (.int .u64 (y k : Nat)) := hcy.1
    have cx' : ∀ r, (w.drewN r).cell? ⟨xb, k, none⟩ = some (.int .u64 (x k : Nat)) := fun _ => hcx.1
    have cy' : ∀ r, (w.drewN r).cell? ⟨yb, k, none⟩ = some (.int .u64 (y k : Nat)) := fun _ => hcy.1
    clear hcx hcy
    have hfin : (k = 0 ∨ x k ≠ y k) → (x k < y k → cmpN (vl x m) (vl y m) = -1) ∧ (y k < x k → cmpN (vl x m) (vl y m) = 1) ∧ (x k = y k → cmpN (vl x m) (vl y m) = 0) := fun hc => by
      refine ⟨fun h => ?_, fun h => ?_, fun h => ?_⟩
      · unfold cmpN
        rw [if_pos (vl_cmp_lt hk (fun i hi => (hx i hi).2.2) he.out h)]
      · have := vl_cmp_lt hk (fun i hi => (hy i hi).2.2) (fun j h1 h2 => (he.out j h1 h2).symm) h
        unfold cmpN
        rw [if_neg (by omega), if_pos this]
      · rcases hc with rfl | hc
        · have := vl_cmp_eq (fun j h1 h2 => he.out j h1 h2) h
          unfold cmpN
          rw [if_neg (by omega), if_neg (by omega)]
        · exact absurd h hc
    by_cases hgo : 0 < k ∧ x k = y k
    · obtain ⟨h0, h1⟩ := hgo
      have b1 := beq_true h1
      have he' : Hid (∀ j, k - 1 < j → j < m → x j = y j) := Lib.hid fun j h2 h3 => by
        rcases Nat.lt_or_ge k j with g | g
        · exact he.out j g h3
        · obtain rfl : j = k := by omega
          exact h1
      have hd : decide ((k : Int) > 0) = true := decide_eq_true (by omega)
      replace h1 := Lib.hid h1
      clear hfin
      go_wp2_with fail
      go_quiet (fail)
      go_wp2_with fail
      go_roundw
      case rel => exact ⟨k - 1, _, by omega, by rw [show ((k - 1 : Nat) : Int) = (k : Int) - 1 by omega], rfl, he'⟩
      case measure => simp [intOf]; omega
    · have hc : k = 0 ∨ x k ≠ y k := by
        rcases Nat.eq_zero_or_pos k with g | g
        · exact .inl g
        · exact .inr fun e => hgo ⟨g, e⟩
      obtain ⟨f1, f2, f3⟩ := hfin hc
      clear hfin hgo he
      rcases Nat.lt_trichotomy (x k) (y k) with h | h | h
      · have g1 := Lib.hid (f1 h)
        have b1 := beq_false (show x k ≠ y k by omega)
        clear f1 f2 f3 hc
        rcases Nat.eq_zero_or_pos k with rfl | g
        all_goals
          go_wp2_with fail
          go_quiet (fail)
          go_wp2_with fail
          go_quiet (fail)
          go_wp2_with fail
          go_ret
          exact ⟨ret_int g1.out.symm, by (simp only [World.drewN_drewN]; exact ⟨_, rfl⟩)⟩
      · have g3 := Lib.hid (f3 h)
        have b1 := beq_true h
        have k0 : k = 0 := by rcases hc with g | g; exact g; exact absurd h g
        subst k0
        clear f1 f2 f3 hc
        have h1 : ¬ x 0 < y 0 := by omega
        have h2 : ¬ y 0 < x 0 := by omega
        replace h := Lib.hid h
        go_wp2_with fail
        go_quiet (fail)
        go_wp2_with fail
        go_quiet (fail)
        go_wp2_with fail
        go_quiet (fail)
        go_wp2_with fail
        go_ret
        exact ⟨ret_int g3.out.symm, by (simp only [World.drewN_drewN]; exact ⟨_, rfl⟩)⟩
      · have g2 := Lib.hid (f2 h)
        have b1 := beq_false (show x k ≠ y k by omega)
        have h1 : ¬ x k < y k := by omega
        clear f1 f2 f3 hc
        rcases Nat.eq_zero_or_pos k with rfl | g
        all_goals
          go_wp2_with fail
          go_quiet (fail)
          go_wp2_with fail
          go_quiet (fail)
          go_wp2_with fail
          go_quiet (fail)
          go_wp2_with fail
          go_ret
          exact ⟨ret_int g2.out.symm, by (simp only [World.drewN_drewN]; exact ⟨_, rfl⟩)⟩
theorem cmp_len (a b : Option Addr) (m n ca cb : Nat) (hm : m ≤ 100000) (hn : n ≤ 100000) (h : m ≠ n ∨ m = 0) (w : World) :
    Calls Tryz.prog 162 #[.slice a m ca, .slice b n cb] w fun e w' => e = .returned (.int .i64 (cmpN m n)) ∧ w = w' := by
  by_cases h1 : m = n
  · subst h1
    obtain rfl : m = 0 := by omega
    go_enter Tryz.func162, Tryz.ntmps162
    go_wp2_with fail
    go_ret
    exact ⟨rfl, rfl⟩
  · have b1 := beq_false h1
    clear h
    by_cases h2 : m < n
    · have : cmpN m n = -1 := by unfold cmpN; rw [if_pos h2]
      rw [this]
      clear h1 this
      go_enter Tryz.func162, Tryz.ntmps162
      go_wp2_with fail
      go_ret
      exact ⟨rfl, rfl⟩
    · have h3 : n < m := by omega
      have : cmpN m n = 1 := by unfold cmpN; rw [if_neg h2, if_pos h3]
      rw [this]
      clear h1 this
      go_enter Tryz.func162, Tryz.ntmps162
      go_wp2_with fail
      go_ret
      exact ⟨rfl, rfl⟩
theorem vl_len_lt {x y : Nat → Nat} {m n : Nat} (hx : ∀ i, i < m → x i < 18446744073709551616) (hy0 : Nrm y n) (h : m < n) : vl x m < vl y n := by
  have h1 := vl_lt hx
  have h2 := hy0.le (by omega)
  have h3 : 18446744073709551616 ^ m ≤ 18446744073709551616 ^ (n - 1) := Nat.pow_le_pow_right (by omega) (by omega)
  omega
theorem cmp_any (xo yo : Option (Nat × Nat)) (m n : Nat) (x y : Nat → Nat) (w : World) (hx : Nt w xo m x) (hy : Nt w yo n y) (hx0 : Nrm x m) (hy0 : Nrm y n) (hm : m ≤ 100000) (hn : n ≤ 100000) :
    Calls Tryz.prog 162 #[nv xo m, nv yo n] w fun e w' => e = .returned (.int .i64 (cmpN (vl x m) (vl y n))) ∧ ∃ q, w' = w.drewN q := by
  have hlx : ∃ a c, nv xo m = .slice a m c := by
    rcases xo with _ | ⟨b, c⟩
    · have : m = 0 := hx
      subst this; exact ⟨_, _, rfl⟩
    · exact ⟨_, _, rfl⟩
  have hly : ∃ a c, nv yo n = .slice a n c := by
    rcases yo with _ | ⟨b, c⟩
    · have : n = 0 := hy
      subst this; exact ⟨_, _, rfl⟩
    · exact ⟨_, _, rfl⟩
  by_cases h : m ≠ n ∨ m = 0
  · obtain ⟨a, ca, ea⟩ := hlx
    obtain ⟨b, cb, eb⟩ := hly
    rw [ea, eb]
    refine (cmp_len a b m n ca cb hm hn h w).mono fun e w' ⟨he, hw⟩ => ⟨?_, 0, hw.symm⟩
    rw [he]
    congr 2
    unfold cmpN
    rcases Nat.lt_trichotomy m n with g | g | g
    · rw [if_pos g, if_pos (vl_len_lt hx.bd hy0 g)]
    · subst g
      obtain rfl : m = 0 := by omega
      rfl
    · have := vl_len_lt hy.bd hx0 g
      rw [if_neg (by omega), if_pos g, if_neg (by omega), if_pos this]
  · obtain rfl : m = n := by omega
    rcases xo with _ | ⟨xb, xc⟩
    · have : m = 0 := hx; omega
    · rcases yo with _ | ⟨yb, yc⟩
      · have : m = 0 := hy; omega
      · exact cmp_same xb xc yb yc m x y w (hx.2.2.2.1.mono hx.1) (hy.2.2.2.1.mono hy.1) (by omega) hm
end
section
open Go.RowKit
structure It (w : World) (p : Nat) (o : Option (Nat × Nat)) (z : Int) : Prop where
  pl : Plain w p
  c0 : w.cell? ⟨p, 0, none⟩ = some (.bool (decide (z < 0)))
  f0 : w.frozen? ⟨p, 0, none⟩ = false
  f1 : w.frozen? ⟨p, 1, none⟩ = false
  ap : ¬ InB o p
  wd : ∃ n f, Nt w o n f ∧ Nrm f n ∧ vl f n = z.natAbs ∧ w.cell? ⟨p, 1, none⟩ = some (nv o n)
def IB (p : Nat) (o : Option (Nat × Nat)) (k : Nat) : Prop := k = p ∨ InB o k
theorem It.lt {w : World} {p : Nat} {o : Option (Nat × Nat)} {z : Int} (h : It w p o z) {k : Nat} (hk : IB p o k) : k < w.heap.size := by
  rcases hk with rfl | hk
  · exact h.pl.lt
  · obtain ⟨n, f, hn, _⟩ := h.wd
    exact hn.lt hk
theorem It.turn {S : Nat → Prop} {w w' : World} {p : Nat} {o : Option (Nat × Nat)} {z : Int} (h : It w p o z) (t : Turn S w w') (hs : ∀ k, IB p o k → ¬ S k) : It w' p o z := by
  obtain ⟨n, f, h1, h2, h3, h4⟩ := h.wd
  have hp := h.pl.lt
  have hsp := hs p (.inl rfl)
  exact ⟨h.pl.turn t hsp, (t.cell (p := ⟨p, 0, none⟩) hp hsp).trans h.c0, (t.frozen (p := ⟨p, 0, none⟩) hp hsp).trans h.f0, (t.frozen (p := ⟨p, 1, none⟩) hp hsp).trans h.f1, h.ap,
    n, f, h1.turn t (fun k hk => hs k (.inr hk)), h2, h3, (t.cell (p := ⟨p, 1, none⟩) hp hsp).trans h4⟩
theorem It.still {w w' : World} {p : Nat} {o : Option (Nat × Nat)} {z : Int} (h : It w p o z) (t : Turn (fun _ => False) w w') : It w' p o z := h.turn t fun _ _ => id
theorem It.drewN {w : World} {p : Nat} {o : Option (Nat × Nat)} {z : Int} (h : It w p o z) (k : Nat) : It (w.drewN k) p o z := ⟨h.pl, h.c0, h.f0, h.f1, h.ap, h.wd⟩
theorem It.drew {w : World} {p : Nat} {o : Option (Nat × Nat)} {z : Int} (h : It w p o z) : It w.drew p o z := ⟨h.pl, h.c0, h.f0, h.f1, h.ap, h.wd⟩
theorem len_of_bl {f : Nat → Nat} {n B : Nat} (h0 : Nrm f n) (hf : ∀ i, i < n → f i < 18446744073709551616) (hB : bl (vl f n) ≤ 64 * B) : n ≤ B := by
  rcases Nat.eq_zero_or_pos n with g | g
  · omega
  · obtain ⟨k, rfl⟩ : ∃ k, n = k + 1 := ⟨n - 1, by omega⟩
    have h1 : f k ≠ 0 := by have := h0.resolve_left (by omega); simpa using this
    rw [bl_vl hf h1] at hB
    have := (bl_spec h1).2.2
    omega
def IRes (w : World) (zp : Nat) (zo : Option (Nat × Nat)) (v : Int) (e : Ending) (w' : World) : Prop :=
  e = .returned (.pointer (some ⟨zp, 0, none⟩)) ∧ ∃ o, It w' zp o v ∧ Own w zo o ∧ Turn (IB zp zo) w w'
theorem IRes.drewN {w : World} {zp : Nat} {zo : Option (Nat × Nat)} {v : Int} {e : Ending} {w' : World} {k : Nat} (h : IRes (w.drewN k) zp zo v e w') : IRes w zp zo v e w' := by
  obtain ⟨he, o, h1, h2, h3⟩ := h
  exact ⟨he, o, h1, h2, ⟨h3.os, h3.tape, h3.output, h3.size, h3.block⟩⟩
theorem It.store {w wa : World} {zp : Nat} {zo : Option (Nat × Nat)} {z : Int} (hz : It w zp zo z) {o : Option (Nat × Nat)} {n : Nat} {f : Nat → Nat} (h1 : Nt wa o n f) (h2 : Nrm f n) (h3 : Own w zo o) (h4 : Turn (InB zo) w wa)
    {v : Int} (hv : vl f n = v.natAbs) {b : Bool} (hb : b = decide (v < 0)) :
    It ((wa.setCell ⟨zp, 1, none⟩ (nv o n)).setCell ⟨zp, 0, none⟩ (.bool b)) zp o v ∧ Turn (IB zp zo) w ((wa.setCell ⟨zp, 1, none⟩ (nv o n)).setCell ⟨zp, 0, none⟩ (.bool b)) := by
  have hp := hz.pl.lt
  have c0 : wa.cell? ⟨zp, 0, none⟩ = _ := (h4.cell (p := ⟨zp, 0, none⟩) hp hz.ap).trans hz.c0
  have hc1 : ∃ u, wa.cell? ⟨zp, 1, none⟩ = some u := by
    obtain ⟨n', f', _, _, _, h⟩ := hz.wd
    exact ⟨_, (h4.cell (p := ⟨zp, 1, none⟩) hp hz.ap).trans h⟩
  obtain ⟨u, c1⟩ := hc1
  have f0 := (h4.frozen (p := ⟨zp, 0, none⟩) hp hz.ap).trans hz.f0
  have f1 := (h4.frozen (p := ⟨zp, 1, none⟩) hp hz.ap).trans hz.f1
  have hap : ¬ InB o zp := fun ⟨c, e⟩ => by
    rcases h3 zp c e with g | g
    · exact hz.ap g
    · omega
  have t2 : Turn (IB zp zo) w ((wa.setCell ⟨zp, 1, none⟩ (nv o n)).setCell ⟨zp, 0, none⟩ (.bool b)) :=
    ((h4.mono (S' := IB zp zo) fun k _ g => .inr g).setCell (p := ⟨zp, 1, none⟩) (fun _ => .inl rfl) _).setCell (p := ⟨zp, 0, none⟩) (fun _ => .inl rfl) _
  refine ⟨⟨((hz.pl.turn h4 hz.ap).setCell _ _).setCell _ _, ?_, ?_, ?_, hap, n, f, ?_, h2, hv, ?_⟩, t2⟩
  · subst hb
    exact World.cell?_setCell_same _ _ _ ((World.cell?_setCell_other _ _ _ _ (by intro e; simp at e)).trans c0)
  · rw [World.frozen?_setCell, World.frozen?_setCell]; exact f0
  · rw [World.frozen?_setCell, World.frozen?_setCell]; exact f1
  · exact h1.turn (S := fun k => k = zp) ((((Turn.refl (fun k => k = zp) wa).setCell (p := ⟨zp, 1, none⟩) (fun _ => rfl) _).setCell (p := ⟨zp, 0, none⟩) (fun _ => rfl) _)) (fun k hk e => by subst e; exact hap hk)
  · exact (World.cell?_setCell_other _ _ _ _ (by intro e; simp at e)).trans (World.cell?_setCell_same _ _ _ c1)
def Apart (zp : Nat) (zo : Option (Nat × Nat)) (xp : Nat) (xo : Option (Nat × Nat)) : Prop := (xp = zp ∧ xo = zo) ∨ ∀ k, IB zp zo k → ¬ IB xp xo k
theorem Apart.ptr {zp : Nat} {zo : Option (Nat × Nat)} {xp : Nat} {xo : Option (Nat × Nat)} {w : World} {x : Int} (h : Apart zp zo xp xo) (hx : It w xp xo x) : ¬ InB zo xp := by
  rcases h with ⟨rfl, rfl⟩ | h
  · exact hx.ap
  · exact fun g => h xp (.inr g) (.inl rfl)
theorem nv_slice (o : Option (Nat × Nat)) (n : Nat) : ∃ a l c, nv o n = .slice a l c := by
  rcases o with _ | ⟨b, c⟩ <;> exact ⟨_, _, _, rfl⟩
end
section
open Go.RowKit
theorem natAbs_lsh (x : Int) (s : Nat) : (x * 2 ^ s).natAbs = x.natAbs * 2 ^ s := by
  rw [Int.natAbs_mul, Int.natAbs_pow]; rfl
theorem neg_lsh (x : Int) (s : Nat) : decide (x < 0) = decide (x * 2 ^ s < 0) := by
  have h : (0 : Int) < 2 ^ s := Int.pow_pos (by omega)
  congr 1
  apply propext
  constructor
  · intro g; exact Int.mul_neg_of_neg_of_pos g h
  · intro g
    by_cases k : x < 0
    · exact k
    · have := Int.mul_nonneg (show 0 ≤ x by omega) (Int.le_of_lt h); omega
set_option maxRecDepth 100000 in
set_option maxHeartbeats 1000000 in
theorem Lsh_any (zp : Nat) (zo : Option (Nat × Nat)) (z : Int) (xp : Nat) (xo : Option (Nat × Nat)) (x : Int) (s : Nat) (w : World) (hz : It w zp zo z) (hx : It w xp xo x) (ha : Apart zp zo xp xo) (hb : bl x.natAbs ≤ 6000000) (hs : s ≤ 6000000) (h0 : s = 0 → zo = none) :
    Calls Tryz.prog 124 #[.pointer (some ⟨zp, 0, none⟩), .pointer (some ⟨xp, 0, none⟩), .int .u64 (s : Int)] w (IRes w zp zo (x * 2 ^ s)) := by
  obtain ⟨nz, fz, hz1, hz2, hz3, cz1⟩ := hz.wd
  obtain ⟨n, f, hx1, hx2, hx3, cx1⟩ := hx.wd
  have hn : n ≤ 100000 := len_of_bl hx2 hx1.bd (by rw [hx3]; omega)
  have hA := lsh_any zo xo nz n s fz f w.drew (by rcases zo with _ | ⟨b, c⟩ <;> exact hz1) (by rcases xo with _ | ⟨b, c⟩ <;> exact hx1) hn hx2 (by omega) h0
  rw [hx3] at hA
  have cz0 := hz.c0
  have fz0 := hz.f0
  have fz1 := hz.f1
  have cx0 := hx.c0
  have hpz := hz.pl.lt
  have hpx := hx.pl.lt
  have hbb := neg_lsh x s
  have hnab := natAbs_lsh x s
  replace hbb := Lib.hid hbb
  replace hnab := Lib.hid hnab
  replace hz := Lib.hid hz
  replace hx := Lib.hid hx
  replace ha := Lib.hid ha
  generalize hneg : decide (x < 0) = b at *
  replace hneg := Lib.hid hneg
  clear hz1 hz2 hz3 hx1 hx2 hx3 h0
  go_enter Tryz.func124, Tryz.ntmps124
  go_wp2_with fail
  go_region_law ((go_simp; go_at_call 152; ((with_reducible refine hA.mono ?_)); rintro e wa ⟨o, k, g, rfl, hr1, hr2, hr3, hr4, hr5⟩
                  have t5 : Turn (InB zo) w wa := ⟨hr5.os, hr5.tape, hr5.output, hr5.size, hr5.block⟩
                  obtain ⟨sa, sl, sc, env⟩ := nv_slice o k
                  have d0 := (t5.cell (p := ⟨zp, 0, none⟩) hpz hz.out.ap).trans cz0
                  have d1 := (t5.cell (p := ⟨zp, 1, none⟩) hpz hz.out.ap).trans cz1
                  have e0 := (t5.frozen (p := ⟨zp, 0, none⟩) hpz hz.out.ap).trans fz0
                  have e1 := (t5.frozen (p := ⟨zp, 1, none⟩) hpz hz.out.ap).trans fz1
                  have d2 := (t5.cell (p := ⟨xp, 0, none⟩) hpx (ha.out.ptr hx.out)).trans cx0
                  have hst := Lib.hid (hz.out.store hr1 hr3 hr4 t5 (v := x * 2 ^ s) (b := b) (by rw [hr2, hnab.out]) hbb.out)
                  rw [env] at hst ⊢
                  replace env := Lib.hid env
                  have hr4 := Lib.hid hr4
                  clear hr1 hr2 hr3 hr5 t5))
  all_goals go_wp2_with fail
  all_goals (go_ret; exact ⟨rfl, o, hst.out.1, hr4.out, hst.out.2⟩)
end
section
open Go.RowKit
theorem It.get {w : World} {p : Nat} {o : Option (Nat × Nat)} {z : Int} (h : It w p o z) : ∃ a n c f, nv o n = .slice a n c ∧ w.cell? ⟨p, 1, none⟩ = some (.slice a n c) ∧ Nt w o n f ∧ Nrm f n ∧ vl f n = z.natAbs ∧ n ≤ 100000000 ∧ (n = 0 ↔ z = 0) := by
  obtain ⟨n, f, h1, h2, h3, h4⟩ := h.wd
  have h0 : n = 0 ↔ z = 0 := by
    constructor
    · rintro rfl
      have : (0 : Nat) = z.natAbs := h3
      omega
    · intro e
      rw [e] at h3
      exact Nat.le_zero.1 (len_of_bl (B := 0) h2 h1.bd (by rw [h3]; exact Nat.le_of_eq rfl))
  rcases o with _ | ⟨b, c⟩
  · have hn0 : n = 0 := h1
    subst hn0
    exact ⟨none, 0, 0, f, rfl, h4, h1, h2, h3, by omega, h0⟩
  · exact ⟨some ⟨b, 0, none⟩, n, c, f, rfl, h4, h1, h2, h3, by have := h1.1; have := h1.2.1; omega, h0⟩
set_option maxRecDepth 100000 in
set_option maxHeartbeats 1000000 in
theorem Rsh_any (zp : Nat) (zo : Option (Nat × Nat)) (z : Int) (xp : Nat) (xo : Option (Nat × Nat)) (x s : Nat) (w : World) (hz : It w zp zo z) (hx : It w xp xo (x : Nat)) (ha : Apart zp zo xp xo) (hb : bl x ≤ 6000000) (hs : s ≤ 6000000) (h0 : s = 0 → zo = none) :
    Calls Tryz.prog 129 #[.pointer (some ⟨zp, 0, none⟩), .pointer (some ⟨xp, 0, none⟩), .int .u64 (s : Int)] w (IRes w zp zo ((x / 2 ^ s : Nat) : Int)) := by
  obtain ⟨nz, fz, hz1, hz2, hz3, cz1⟩ := hz.wd
  obtain ⟨n, f, hx1, hx2, hx3, cx1⟩ := hx.wd
  rw [Int.natAbs_natCast] at hx3
  have hn : n ≤ 100000 := len_of_bl hx2 hx1.bd (by rw [hx3]; omega)
  have hA := rsh_any zo xo nz n s fz f w.drew (by rcases zo with _ | ⟨b, c⟩ <;> exact hz1) (by rcases xo with _ | ⟨b, c⟩ <;> exact hx1) hn hx2 (by omega) h0
  rw [hx3] at hA
  have cz0 := hz.c0
  have fz0 := hz.f0
  have fz1 := hz.f1
  have cx0 := hx.c0
  rw [decide_eq_false (show ¬ ((x : Nat) : Int) < 0 by omega)] at cx0
  have hpz := hz.pl.lt
  have hpx := hx.pl.lt
  replace hz := Lib.hid hz
  replace hx := Lib.hid hx
  replace ha := Lib.hid ha
  generalize hv : x / 2 ^ s = v at *
  clear hz1 hz2 hz3 hx1 hx2 hx3 h0 hv
  go_enter Tryz.func129, Tryz.ntmps129
  go_wp2_with fail
  go_region_law ((go_simp; go_at_call 159; ((with_reducible refine hA.mono ?_)); rintro e wa ⟨o, k, g, rfl, hr1, hr2, hr3, hr4, hr5⟩
                  have t5 : Turn (InB zo) w wa := ⟨hr5.os, hr5.tape, hr5.output, hr5.size, hr5.block⟩
                  obtain ⟨sa, sl, sc, env⟩ := nv_slice o k
                  have d0 := (t5.cell (p := ⟨zp, 0, none⟩) hpz hz.out.ap).trans cz0
                  have d1 := (t5.cell (p := ⟨zp, 1, none⟩) hpz hz.out.ap).trans cz1
                  have e0 := (t5.frozen (p := ⟨zp, 0, none⟩) hpz hz.out.ap).trans fz0
                  have e1 := (t5.frozen (p := ⟨zp, 1, none⟩) hpz hz.out.ap).trans fz1
                  have hst := Lib.hid (hz.out.store hr1 hr3 hr4 t5 (v := (v : Int)) (b := false) (by rw [hr2, Int.natAbs_natCast]) (decide_eq_false (show ¬ ((v : Nat) : Int) < 0 by omega)).symm)
                  rw [env] at hst ⊢
                  replace env := Lib.hid env
                  have hr4 := Lib.hid hr4
                  clear hr1 hr2 hr3 hr5 t5))
  all_goals go_wp2_with fail
  all_goals (go_ret; exact ⟨rfl, o, hst.out.1, hr4.out, hst.out.2⟩)
theorem BitLen_any (xp : Nat) (xo : Option (Nat × Nat)) (x : Int) (w : World) (hx : It w xp xo x) (hb : bl x.natAbs ≤ 6000000) :
    Calls Tryz.prog 131 #[.pointer (some ⟨xp, 0, none⟩)] w fun e w' => e = .returned (.int .i64 ((bl x.natAbs : Nat) : Int)) ∧ w = w' := by
  obtain ⟨n, f, hx1, hx2, hx3, cx1⟩ := hx.wd
  have hn : n ≤ 100000 := len_of_bl hx2 hx1.bd (by rw [hx3]; omega)
  have hA := bitLen_any xo n f w hx1 hx2 hn
  rw [hx3] at hA
  generalize nv xo n = vv at *
  clear hx1 hx2 hx3
  go_enter Tryz.func131, Tryz.ntmps131
  go_wp2_with (go_at_call 160; ((with_reducible refine hA.mono ?_)); rintro e wa ⟨rfl, rfl⟩)
  go_ret
  exact ⟨rfl, rfl⟩
theorem TZB_any (xp : Nat) (xo : Option (Nat × Nat)) (x : Int) (w : World) (hx : It w xp xo x) (hb : bl x.natAbs ≤ 6000000) (h0 : x ≠ 0) (hT : Tab w) :
    Calls Tryz.prog 128 #[.pointer (some ⟨xp, 0, none⟩)] w fun e w' => ∃ t : Nat, e = .returned (.int .u64 (t : Nat)) ∧ Hid (∃ q, x.natAbs = 2 ^ t * (2 * q + 1)) ∧ t < 6400000 ∧ w = w' := by
  obtain ⟨n, f, hx1, hx2, hx3, cx1⟩ := hx.wd
  have hn : n ≤ 100000 := len_of_bl hx2 hx1.bd (by rw [hx3]; omega)
  rcases xo with _ | ⟨xb, xc⟩
  · have : n = 0 := hx1
    subst this
    have : (0 : Nat) = x.natAbs := hx3
    omega
  have hn1 : 1 ≤ n := by
    rcases Nat.eq_zero_or_pos n with g | g
    · subst g
      have : (0 : Nat) = x.natAbs := hx3
      omega
    · exact g
  have hA := tzb_some xb xc n f w (fun j hj => hx1.2.2.2.1 j (by have := hx1.1; omega)) hn1 hn hx2 hT
  rw [hx3] at hA
  replace cx1 : w.cell? ⟨xp, 1, none⟩ = some (.slice (some ⟨xb, 0, none⟩) n xc) := cx1
  clear hx1 hx2 hx3 hb h0
  go_enter Tryz.func128, Tryz.ntmps128
  go_wp2_with (go_at_call 158; ((with_reducible refine hA.mono ?_)); rintro e wa ⟨t, rfl, hq, ht, rfl⟩)
  go_ret
  exact ⟨t, rfl, hq, by omega, rfl⟩
def sgn (x : Int) : Int := if x < 0 then -1 else if x = 0 then 0 else 1
theorem Sign_any (xp : Nat) (xo : Option (Nat × Nat)) (x : Int) (w : World) (hx : It w xp xo x) :
    Calls Tryz.prog 64 #[.pointer (some ⟨xp, 0, none⟩)] w fun e w' => e = .returned (.int .i64 (sgn x)) ∧ w = w' := by
  obtain ⟨sa, n, sc, f, env, cx1, _, _, _, hn, h0⟩ := hx.get
  have c0 := hx.c0
  clear env hx
  by_cases g : n = 0
  · have : x = 0 := h0.1 g
    subst this
    subst g
    clear h0
    go_enter Tryz.func64, Tryz.ntmps64
    go_wp2_with fail
    go_ret
    exact ⟨rfl, rfl⟩
  · have g1 : x ≠ 0 := fun e => g (h0.2 e)
    have b0 : ((n : Int) == 0) = false := beq0_false g
    by_cases g2 : x < 0
    · have e : sgn x = -1 := by unfold sgn; rw [if_pos g2]
      rw [e]
      rw [decide_eq_true g2] at c0
      clear h0 e
      go_enter Tryz.func64, Tryz.ntmps64
      go_wp2_with fail
      go_ret
      exact ⟨rfl, rfl⟩
    · have e : sgn x = 1 := by unfold sgn; rw [if_neg g2, if_neg g1]
      rw [e]
      rw [decide_eq_false g2] at c0
      clear h0 e
      go_enter Tryz.func64, Tryz.ntmps64
      go_wp2_with fail
      go_ret
      exact ⟨rfl, rfl⟩
theorem Int64_nat (xp : Nat) (xo : Option (Nat × Nat)) (x : Nat) (w : World) (hx : It w xp xo (x : Nat)) (hlt : x < 1073741824) :
    Calls Tryz.prog 133 #[.pointer (some ⟨xp, 0, none⟩)] w fun e w' => e = .returned (.int .i64 (x : Int)) ∧ w = w' := by
  obtain ⟨sa, n, sc, f, env, cx1, h1, h2, h3, hn, h0⟩ := hx.get
  have c0 := hx.c0
  rw [decide_eq_false (show ¬ ((x : Nat) : Int) < 0 by omega)] at c0
  rw [Int.natAbs_natCast] at h3
  have hbl : n ≤ 1 := len_of_bl h2 h1.bd (by rw [h3]; exact Nat.le_trans (bl_le (k := 64) (by omega)) (by omega))
  have hA : Calls Tryz.prog 161 #[.slice sa n sc] w fun e w' => e = .returned (.int .u64 (x : Nat)) ∧ w = w' := by
    rcases xo with _ | ⟨b, c⟩
    · obtain rfl : n = 0 := h1
      have hx0 : (0 : Nat) = x := h3
      subst hx0
      exact low64_none sa sc w
    · have e1 : Value.slice (some ⟨b, 0, none⟩) n c = .slice sa n sc := env
      rcases Nat.eq_zero_or_pos n with g | g
      · subst g
        have hx0 : (0 : Nat) = x := h3
        subst hx0
        exact low64_none sa sc w
      · obtain rfl : n = 1 := by omega
        have e2 : vl f 1 = f 0 := by simp [vl]
        rw [← h3, e2, ← e1]
        exact low64_some b c 1 f w (fun j hj => h1.2.2.2.1 j (by have := h1.1; omega)) (by omega) (by omega)
  have w1 : IntKind.wrap .i64 (x : Int) = x := by rw [IntKind.wrap_i64]; omega
  clear env h1 h2 h3 h0 hx hbl
  go_enter Tryz.func133, Tryz.ntmps133
  go_wp2_with (go_at_call 161; ((with_reducible refine hA.mono ?_)); rintro e wa ⟨rfl, rfl⟩)
  go_ret
  exact ⟨rfl, rfl⟩
end
section
open Go.RowKit
def Far (zp : Nat) (zo : Option (Nat × Nat)) (xp : Nat) (xo : Option (Nat × Nat)) : Prop := ∀ k, IB zp zo k → ¬ IB xp xo k
theorem Far.ap {zp xp : Nat} {zo xo : Option (Nat × Nat)} (h : Far zp zo xp xo) : Apart zp zo xp xo := .inr h
theorem Far.ne {zp xp : Nat} {zo xo : Option (Nat × Nat)} (h : Far zp zo xp xo) : zp ≠ xp := fun e => h zp (.inl rfl) (.inl e)
set_option maxRecDepth 100000 in
set_option maxHeartbeats 1000000 in
theorem Set_far (zp : Nat) (zo : Option (Nat × Nat)) (z : Int) (xp : Nat) (xo : Option (Nat × Nat)) (x : Int) (w : World) (hz : It w zp zo z) (hx : It w xp xo x) (ha : Far zp zo xp xo) (hb : bl x.natAbs ≤ 6000000) :
    Calls Tryz.prog 127 #[.pointer (some ⟨zp, 0, none⟩), .pointer (some ⟨xp, 0, none⟩)] w (IRes w zp zo x) := by
  obtain ⟨nz, fz, hz1, hz2, hz3, cz1⟩ := hz.wd
  obtain ⟨n, f, hx1, hx2, hx3, cx1⟩ := hx.wd
  have hn : n ≤ 1000000 := Nat.le_trans (len_of_bl (B := 100000) hx2 hx1.bd (by rw [hx3]; omega)) (by omega)
  have hA := set_any zo xo nz n fz f w.drew (by rcases zo with _ | ⟨b, c⟩ <;> exact hz1) (by rcases xo with _ | ⟨b, c⟩ <;> exact hx1) hn hx2
  rw [hx3] at hA
  have cz0 := hz.c0
  have fz0 := hz.f0
  have fz1 := hz.f1
  have cx0 := hx.c0
  have hpz := hz.pl.lt
  have hpx := hx.pl.lt
  have hneq := ptr_neq_other 95 128 (by kernel_rfl) (by kernel_rfl) (a := ⟨zp, 0, none⟩) (b := ⟨xp, 0, none⟩) w ha.ne hz.pl hx.pl
  generalize hbb : decide (x < 0) = b at *
  replace hbb := Lib.hid hbb
  have ha' := Lib.hid (ha.ap.ptr hx)
  replace hz := Lib.hid hz
  clear hz1 hz2 hz3 hx1 hx2 hx3 hx
  go_enter Tryz.func127, Tryz.ntmps127
  go_wp2_with fail
  go_region_law ((go_simp; go_at_call 142; ((with_reducible refine hA.mono ?_)); rintro e wa ⟨o, k, g, rfl, hr1, hr2, hr3, hr4, hr5⟩
                  have t5 : Turn (InB zo) w wa := ⟨hr5.os, hr5.tape, hr5.output, hr5.size, hr5.block⟩
                  obtain ⟨sa, sl, sc, env⟩ := nv_slice o k
                  have d0 := (t5.cell (p := ⟨zp, 0, none⟩) hpz hz.out.ap).trans cz0
                  have d1 := (t5.cell (p := ⟨zp, 1, none⟩) hpz hz.out.ap).trans cz1
                  have e0 := (t5.frozen (p := ⟨zp, 0, none⟩) hpz hz.out.ap).trans fz0
                  have e1 := (t5.frozen (p := ⟨zp, 1, none⟩) hpz hz.out.ap).trans fz1
                  have d2 := (t5.cell (p := ⟨xp, 0, none⟩) hpx ha'.out).trans cx0
                  have hst := Lib.hid (hz.out.store hr1 hr3 hr4 t5 (v := x) (b := b) hr2 hbb.out.symm)
                  rw [env] at hst ⊢
                  replace env := Lib.hid env
                  have hr4 := Lib.hid hr4
                  clear hr1 hr2 hr3 hr5 t5))
  all_goals go_wp2_with fail
  all_goals (go_ret; exact ⟨rfl, o, hst.out.1, hr4.out, hst.out.2⟩)
theorem Set_same (zp : Nat) (w : World) :
    Calls Tryz.prog 127 #[.pointer (some ⟨zp, 0, none⟩), .pointer (some ⟨zp, 0, none⟩)] w fun e w' => e = .returned (.pointer (some ⟨zp, 0, none⟩)) ∧ w = w' := by
  have hneq := ptr_neq_same 95 128 (by kernel_rfl) (by kernel_rfl) ⟨zp, 0, none⟩ w
  go_enter Tryz.func127, Tryz.ntmps127
  go_wp2_with fail
  go_ret
  exact ⟨rfl, rfl⟩
theorem It.sign {w : World} {p : Nat} {o : Option (Nat × Nat)} {z : Int} (h : It w p o z) {v : Int} (hv : v.natAbs = z.natAbs) {b : Bool} (hb : b = decide (v < 0)) :
    It (w.setCell ⟨p, 0, none⟩ (.bool b)) p o v ∧ Turn (fun k => k = p) w (w.setCell ⟨p, 0, none⟩ (.bool b)) := by
  obtain ⟨n, f, h1, h2, h3, h4⟩ := h.wd
  have t2 : Turn (fun k => k = p) w (w.setCell ⟨p, 0, none⟩ (.bool b)) := (Turn.refl (fun k => k = p) w).setCell (p := ⟨p, 0, none⟩) (fun _ => rfl) _
  refine ⟨⟨h.pl.setCell _ _, ?_, ?_, ?_, h.ap, n, f, h1.turn t2 (fun k hk e => by subst e; exact h.ap hk), h2, by rw [h3, hv], ?_⟩, t2⟩
  · subst hb
    exact World.cell?_setCell_same _ _ _ h.c0
  · rw [World.frozen?_setCell]; exact h.f0
  · rw [World.frozen?_setCell]; exact h.f1
  · exact (World.cell?_setCell_other _ _ _ _ (by intro e; simp at e)).trans h4
set_option maxRecDepth 100000 in
set_option maxHeartbeats 1000000 in
theorem Neg_same (p : Nat) (o : Option (Nat × Nat)) (x : Int) (w : World) (hx : It w p o x) :
    Calls Tryz.prog 92 #[.pointer (some ⟨p, 0, none⟩), .pointer (some ⟨p, 0, none⟩)] w fun e w' => e = .returned (.pointer (some ⟨p, 0, none⟩)) ∧ It w' p o (-x) ∧ Turn (fun k => k = p) w w' := by
  have hA := Set_same p w
  obtain ⟨sa, n, sc, f, env, cx1, _, _, _, hn, h0⟩ := hx.get
  have c0 := hx.c0
  have f0 := hx.f0
  have hs : ∀ b, b = decide (-x < 0) → _ := fun b hb => hx.sign (v := -x) (Int.natAbs_neg x) hb
  clear env
  by_cases g : n = 0
  · have hx0 : x = 0 := h0.1 g
    subst g hx0
    replace hs := Lib.hid (hs false (by simp))
    clear h0 hx
    go_enter Tryz.func92, Tryz.ntmps92
    go_wp2_with (go_at_call 127; ((with_reducible refine hA.mono ?_)); rintro e wa ⟨rfl, rfl⟩)
    go_ret
    exact ⟨rfl, hs.out⟩
  · have g1 : x ≠ 0 := fun e => g (h0.2 e)
    have b0 : ((n : Int) == 0) = false := beq0_false g
    have n0 : (0 : Int) < n := by omega
    by_cases g2 : x < 0
    · rw [decide_eq_true g2] at c0
      replace hs := Lib.hid (hs false (decide_eq_false (by omega)).symm)
      clear h0 hx g g1 g2
      go_enter Tryz.func92, Tryz.ntmps92
      go_wp2_with (go_at_call 127; ((with_reducible refine hA.mono ?_)); rintro e wa ⟨rfl, rfl⟩)
      go_ret
      exact ⟨rfl, hs.out⟩
    · rw [decide_eq_false g2] at c0
      replace hs := Lib.hid (hs true (decide_eq_true (by omega)).symm)
      clear h0 hx g g1 g2
      go_enter Tryz.func92, Tryz.ntmps92
      go_wp2_with (go_at_call 127; ((with_reducible refine hA.mono ?_)); rintro e wa ⟨rfl, rfl⟩)
      go_ret
      exact ⟨rfl, hs.out⟩
theorem Abs_far (zp : Nat) (zo : Option (Nat × Nat)) (z : Int) (xp : Nat) (xo : Option (Nat × Nat)) (x : Int) (w : World) (hz : It w zp zo z) (hx : It w xp xo x) (ha : Far zp zo xp xo) (hb : bl x.natAbs ≤ 6000000) :
    Calls Tryz.prog 130 #[.pointer (some ⟨zp, 0, none⟩), .pointer (some ⟨xp, 0, none⟩)] w (IRes w zp zo (x.natAbs : Int)) := by
  have hA := Set_far zp zo z xp xo x w hz hx ha hb
  replace hz := Lib.hid hz
  replace hx := Lib.hid hx
  go_enter Tryz.func130, Tryz.ntmps130
  go_wp2_with (go_at_call 127; ((with_reducible refine hA.mono ?_)); rintro e wa ⟨rfl, o, h1, h2, h3⟩
               have c0 := h1.c0
               have f0 := h1.f0
               have hs := Lib.hid (h1.sign (v := (x.natAbs : Int)) (Int.natAbs_natCast _) (b := false) (decide_eq_false (by omega)).symm)
               replace h1 := Lib.hid h1)
  go_ret
  exact ⟨rfl, o, hs.out.1, h2, h3.trans hs.out.2 fun k _ g => .inl g⟩
end
end Go.Proofs.YtllapbkoildfiaaGreatFmt
