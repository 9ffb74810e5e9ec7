/- Walks of the small functions on one float: Value, finite, way, normal, Abs, Tame, and the reference's Coordinate, Zero, Rank, Tame. -/
import Derived.Test.YtbmgjbpcijbocaaProg
import Derived.Test.YtbmgjbpcijbocaaWord
import Derived.WalkKit
import Derived.WalkLawsBesides
import Derived.WalkSpells
import Derived.Laws.Cover2
import Derived.Laws.FloatArith
import Derived.Lib.Hide
import Derived.Deep.Draws
import Derived.Deep.QuietTactic
import Derived.BigQuiet
namespace Go.Proofs.Ytbmgjbpcijbocaa
open Go.RowKit

theorem from_bits (n : Int) (w : World) : (callFunc 31 #[.int .u64 n]).run Try.prog w = .ok (.value (.float .f64 n.toNat)) w := by
  rw [run_callFunc_extern Try.func31 (by kernel_rfl) (by kernel_rfl) (by kernel_rfl) (e := Extern.MathFloatBits.float64frombits) (by kernel_rfl)]
  rfl

theorem to_bits (n : Nat) (w : World) : (callFunc 32 #[.float .f64 n]).run Try.prog w = .ok (.value (.int .u64 n)) w := by
  rw [run_callFunc_extern Try.func32 (by kernel_rfl) (by kernel_rfl) (by kernel_rfl) (e := Extern.MathFloatBits.float64bits) (by kernel_rfl)]
  rfl

theorem value_any (b : Int) (w : World) : Calls Try.prog 23 #[.int .i64 b] w fun e w' => e = .returned (.float .f64 (wd b)) ∧ w = w' := by
  have fb := from_bits
  go_enter Try.func23, Try.ntmps23
  go_wp2
  go_ret
  exact ⟨rfl, rfl⟩

theorem way_any (x y : Nat) (w : World) : Calls Try.prog 33 #[.float .f64 x, .float .f64 y] w fun e w' => e = .returned (.int .i64 (wayF x y)) ∧ w = w' := by
  by_cases h1 : FloatKind.f64.format.order x y = some .lt
  · have e : wayF x y = -1 := by unfold wayF; rw [if_pos h1]
    rw [e]
    have h2 : (FloatKind.f64.format.order x y == some .lt) = true := by rw [h1]; rfl
    clear e h1
    go_enter Try.func33, Try.ntmps33
    go_wp2
    go_ret
    exact ⟨rfl, rfl⟩
  · have h2 : (FloatKind.f64.format.order x y == some .lt) = false := by
      cases h : (FloatKind.f64.format.order x y == some .lt) with
      | false => rfl
      | true => exact absurd (by simpa using h) h1
    by_cases h3 : FloatKind.f64.format.order x y = some .gt
    · have e : wayF x y = 1 := by unfold wayF; rw [if_neg h1, if_pos h3]
      rw [e]
      have h4 : (FloatKind.f64.format.order x y == some .gt) = true := by rw [h3]; rfl
      clear e h1 h3
      go_enter Try.func33, Try.ntmps33
      go_wp2
      go_ret
      exact ⟨rfl, rfl⟩
    · have e : wayF x y = 0 := by unfold wayF; rw [if_neg h1, if_neg h3]
      rw [e]
      have h4 : (FloatKind.f64.format.order x y == some .gt) = false := by
        cases h : (FloatKind.f64.format.order x y == some .gt) with
        | false => rfl
        | true => exact absurd (by simpa using h) h3
      clear e h1 h3
      go_enter Try.func33, Try.ntmps33
      go_wp2
      go_ret
      exact ⟨rfl, rfl⟩

theorem finite_yes (b : Int) (w : World) (h : Pf.rg (wd b) < 9218868437227405312) : Calls Try.prog 28 #[.int .i64 b] w fun e w' => e = .returned (.bool true) ∧ w = w' := by
  have fb := from_bits
  have hs : ∀ w, (binOp .sub 50 (.float .f64 (IntKind.u64.wrap b).toNat) (.float .f64 (IntKind.u64.wrap b).toNat)).run Try.prog w = .ok (.float .f64 0) w := fun w =>
    run_float_arith w .sub 50 .f64 _ _ 0 (Pf.sub_self_finite _ h)
  have h0 : (FloatKind.f64.format.order 0 0 == some .eq) = true := by decide
  clear h
  go_enter Try.func28, Try.ntmps28
  go_wp2
  go_ret
  exact ⟨rfl, rfl⟩

/-- A difference that is none: some word of a NaN, one draw on. -/
theorem sub_none (x y : Nat) (h : Ieee.double.sub x y = none) (w : World) : ∃ n, 9218868437227405312 < Pf.rg n ∧ (binOp .sub 50 (.float .f64 x) (.float .f64 y)).run Try.prog w = .ok (.float .f64 n) w.drew := by
  refine ⟨Question.cut (.nanBits .f64 x y) (w.tape w.drawn (.nanBits .f64 x y)), ?_, ?_⟩
  · generalize w.tape w.drawn (.nanBits .f64 x y) = t
    unfold Question.cut Pf.rg
    simp only
    rw [show (2 : Nat) ^ 63 = 9223372036854775808 by decide, show (2 : Nat) ^ 52 - 1 = 4503599627370495 by decide]
    have ha : t % 2 < 2 := Nat.mod_lt _ (by omega)
    have hc : t / 2 % 4503599627370495 < 4503599627370495 := Nat.mod_lt _ (by omega)
    generalize t % 2 = a at ha ⊢
    generalize t / 2 % 4503599627370495 = c at hc ⊢
    rcases (by omega : a = 0 ∨ a = 1) with rfl | rfl <;> omega
  · have h' : FloatKind.f64.format.sub x y = none := h
    simp [binOp, Op.floatArith, h', Question.forced]

theorem finite_no (b : Int) (w : World) (h : ¬ Pf.rg (wd b) < 9218868437227405312) : Calls Try.prog 28 #[.int .i64 b] w fun e w' => e = .returned (.bool false) ∧ w.drew = w' := by
  have fb := from_bits
  obtain ⟨n, hn, hs⟩ := sub_none (IntKind.u64.wrap b).toNat (IntKind.u64.wrap b).toNat (Pf.sub_self_none _ h) w
  have h0 : (FloatKind.f64.format.order n n == some .eq) = false := by
    have : FloatKind.f64.format.order n n = none := Pf.order_nan n n hn
    rw [this]; rfl
  clear h hn
  go_enter Try.func28, Try.ntmps28
  go_wp2
  go_ret
  exact ⟨rfl, rfl⟩

/-- finite: it leaves all as it was, but for a draw. -/
theorem finite_any (b : Int) (w : World) : Calls Try.prog 28 #[.int .i64 b] w fun e w' => e = .returned (.bool (fin b)) ∧ ∃ n, w' = w.drewN n := by
  by_cases h : Pf.rg (wd b) < 9218868437227405312
  · refine (finite_yes b w h).mono fun e w' ⟨he, hw⟩ => ⟨?_, 0, ?_⟩
    · rw [he]; unfold fin; rw [decide_eq_true h]
    · rw [← hw]; rfl
  · refine (finite_no b w h).mono fun e w' ⟨he, hw⟩ => ⟨?_, 1, ?_⟩
    · rw [he]; unfold fin; rw [decide_eq_false h]
    · rw [← hw]; rfl

theorem zero_any (b : Int) (w : World) : Calls Try.prog 24 #[.int .i64 b] w fun e w' => e = .returned (.int .i64 (zeroF b)) ∧ w = w' := by
  by_cases h : b = -9223372036854775808
  · have e : zeroF b = 0 := by unfold zeroF; rw [if_pos h]
    rw [e]
    have h2 : (b == -9223372036854775808) = true := by simpa using h
    clear e h
    go_enter Try.func24, Try.ntmps24
    go_wp2
    go_ret
    exact ⟨rfl, rfl⟩
  · have e : zeroF b = b := by unfold zeroF; rw [if_neg h]
    rw [e]
    have h2 : (b == -9223372036854775808) = false := by simpa using h
    clear e h
    go_enter Try.func24, Try.ntmps24
    go_wp2
    go_ret
    exact ⟨rfl, rfl⟩

theorem coord_any (b : Int) (w : World) (h1 : -9223372036854775808 ≤ b) (h2 : b ≤ 9223372036854775807) : Calls Try.prog 19 #[.int .i64 b] w fun e w' => e = .returned (.bool (fin b)) ∧ w = w' := by
  rw [← coord_eq b h1 h2]
  clear h1 h2
  go_enter Try.func19, Try.ntmps19
  go_wp2
  go_ret
  exact ⟨rfl, rfl⟩

theorem rank_wrap (b : Int) (h1 : -9223372036854775808 ≤ b) (h : b < 0) : wrap64 (-wrap64 (b + 9223372036854775808)) = rankF b := by
  unfold wrap64 rankF
  rw [if_pos h]
  omega

theorem rank_any (b : Int) (w : World) (h1 : -9223372036854775808 ≤ b) : Calls Try.prog 27 #[.int .i64 b] w fun e w' => e = .returned (.int .i64 (rankF b)) ∧ w = w' := by
  by_cases h : b < 0
  · rw [← rank_wrap b h1 h]
    clear h1
    go_enter Try.func27, Try.ntmps27
    go_wp2
    go_ret
    exact ⟨rfl, rfl⟩
  · have e : rankF b = b := by unfold rankF; rw [if_neg h]
    rw [e]
    clear h1 e
    go_enter Try.func27, Try.ntmps27
    go_wp2
    go_ret
    exact ⟨rfl, rfl⟩

theorem abs_any (n : Nat) (w : World) (h : n < 18446744073709551616) : Calls Try.prog 22 #[.float .f64 n] w fun e w' => e = .returned (.float .f64 (Pf.rg n)) ∧ w = w' := by
  have e : Pf.rg n = (bits .andNot .u64 (n : Int) 9223372036854775808).toNat := (andNot_top n h).symm
  rw [e]
  clear e h
  have fb := from_bits
  have tb := to_bits
  go_enter Try.func22, Try.ntmps22
  go_wp2
  go_ret
  exact ⟨rfl, rfl⟩

theorem wd_lt (b : Int) : wd b < 18446744073709551616 := by rw [wd_eq]; omega

theorem tame_walk (b : Int) (r : Nat) (hr : Pf.rg (wd b) = r) (w : World) : Calls Try.prog 9 #[.int .i64 b] w fun e w' => e = .returned (.bool (tameT r)) ∧ w = w' := by
  have ha := fun w => abs_any (wd b) w (wd_lt b)
  rw [hr] at ha
  clear hr
  unfold tameT
  cases hp : (FloatKind.f64.format.order r 0 == some .eq) with
  | true =>
    go_enter Try.func9, Try.ntmps9
    go_wp2_with (first | (go_at_call 23; refine (value_any _ _).mono ?_; rintro e w' ⟨rfl, rfl⟩) | (go_at_call 22; refine (ha _).mono ?_; rintro e w' ⟨rfl, rfl⟩))
    go_ret
    exact ⟨rfl, rfl⟩
  | false =>
    cases hq : (FloatKind.f64.format.order r 3931642474694443008 == some .gt || FloatKind.f64.format.order r 3931642474694443008 == some .eq) with
    | true =>
      go_enter Try.func9, Try.ntmps9
      go_wp2_with (first | (go_at_call 23; refine (value_any _ _).mono ?_; rintro e w' ⟨rfl, rfl⟩) | (go_at_call 22; refine (ha _).mono ?_; rintro e w' ⟨rfl, rfl⟩))
      go_ret
      exact ⟨rfl, rfl⟩
    | false =>
      go_enter Try.func9, Try.ntmps9
      go_wp2_with (first | (go_at_call 23; refine (value_any _ _).mono ?_; rintro e w' ⟨rfl, rfl⟩) | (go_at_call 22; refine (ha _).mono ?_; rintro e w' ⟨rfl, rfl⟩))
      go_ret
      exact ⟨rfl, rfl⟩

theorem tame_any' (b : Int) (w : World) : Calls Try.prog 9 #[.int .i64 b] w fun e w' => e = .returned (.bool (tameR (Pf.rg (wd b)))) ∧ w = w' := by
  rw [← tameT_eq _ (rg_lt _)]
  exact tame_walk b _ rfl w

theorem tameref_any (b : Int) (w : World) (h1 : -9223372036854775808 ≤ b) (h2 : b ≤ 9223372036854775807) : Calls Try.prog 10 #[.int .i64 b] w fun e w' => e = .returned (.bool (tameR (Pf.rg (wd b)))) ∧ w = w' := by
  rw [← tame_ref b h1 h2]
  clear h1 h2
  unfold expF
  cases hp : (zeroF b == 0) with
  | true =>
    go_enter Try.func10, Try.ntmps10
    go_wp2_with (go_at_call 24; refine (zero_any _ _).mono ?_; rintro e w' ⟨rfl, rfl⟩)
    go_ret
    exact ⟨rfl, rfl⟩
  | false =>
    cases hq : decide (873 ≤ bits .and .i64 (b / 4503599627370496) 2047) with
    | true =>
      go_enter Try.func10, Try.ntmps10
      go_wp2_with (go_at_call 24; refine (zero_any _ _).mono ?_; rintro e w' ⟨rfl, rfl⟩)
      go_ret
      exact ⟨rfl, rfl⟩
    | false =>
      go_enter Try.func10, Try.ntmps10
      go_wp2_with (go_at_call 24; refine (zero_any _ _).mono ?_; rintro e w' ⟨rfl, rfl⟩)
      go_ret
      exact ⟨rfl, rfl⟩

theorem normal_ref (b : Int) (h1 : -9223372036854775808 ≤ b) (h2 : b ≤ 9223372036854775807) (hf : fin b = true) : (FloatKind.f64.format.order (wd b) 0 == some .eq) = (zeroF b == 0) := by
  have e : Ieee.double.order (wd b) 0 = some (compare (Pf.sg (Pf.sgn (wd b)) (Pf.rg (wd b))) (Pf.sg (Pf.sgn 0) (Pf.rg 0))) := Pf.order_finite _ _ ((fin_iff b).mp hf) (by decide)
  have e' : FloatKind.f64.format.order (wd b) 0 = _ := e
  rw [e', sg_wd b h1 h2]
  have z : Pf.sg (Pf.sgn 0) (Pf.rg 0) = 0 := by decide
  rw [z, compare_int]
  have hz : zeroF b = 0 ↔ rankF b = 0 := by
    unfold zeroF rankF
    by_cases h : b = -9223372036854775808
    · rw [if_pos h, if_pos (show b < 0 by omega)]; omega
    · rw [if_neg h]; split <;> omega
  by_cases h0 : rankF b = 0
  · rw [hz.mpr h0, h0]; rfl
  · have hn : (zeroF b == 0) = false := by simpa using fun h => h0 (hz.mp h)
    rw [hn]
    by_cases hl : rankF b < 0
    · rw [if_pos hl]; rfl
    · rw [if_neg hl, if_neg h0]; rfl

theorem normal_any (b : Int) (w : World) (h1 : -9223372036854775808 ≤ b) (h2 : b ≤ 9223372036854775807) (hf : fin b = true) : Calls Try.prog 29 #[.int .i64 b] w fun e w' => e = .returned (.int .i64 (zeroF b)) ∧ w = w' := by
  have hn := normal_ref b h1 h2 hf
  clear hf h1 h2
  by_cases h : zeroF b = 0
  · rw [h] at hn ⊢
    have hn' : (FloatKind.f64.format.order (wd b) 0 == some .eq) = true := hn
    clear hn h
    go_enter Try.func29, Try.ntmps29
    go_wp2_with (go_at_call 23; refine (value_any _ _).mono ?_; rintro e w' ⟨rfl, rfl⟩)
    go_ret
    exact ⟨rfl, rfl⟩
  · have hz : zeroF b = b := by
      unfold zeroF at h ⊢
      by_cases g : b = -9223372036854775808
      · rw [if_pos g] at h; exact absurd rfl h
      · rw [if_neg g]
    have hn' : (FloatKind.f64.format.order (wd b) 0 == some .eq) = false := by rw [hn]; simpa using h
    rw [hz]
    clear hn h hz
    go_enter Try.func29, Try.ntmps29
    go_wp2_with (go_at_call 23; refine (value_any _ _).mono ?_; rintro e w' ⟨rfl, rfl⟩)
    go_ret
    exact ⟨rfl, rfl⟩
end Go.Proofs.Ytbmgjbpcijbocaa
