/- The walks of LeadingZeros and TrailingZeros64 · How many binary digits a number has. -/
import Derived.Test.YtllapbkoildfiaaGreatFmtM06
import Derived.Test.YtllapbkoildfiaaGreatFmtM05
import Derived.Lib.TrailingZeros
set_option linter.all false
namespace Go.Proofs.YtllapbkoildfiaaGreatFmt
section
open Go.RowKit
theorem len_any (x : Nat) (hx : x < 18446744073709551616) (w : World) : Calls Tryz.prog 191 #[.int .u64 (x : Int)] w fun e w' => e = .returned (.int .i64 (Lib.bitLen x : Nat)) ∧ w = w' := by
  have h := len64_any (x : Int) w (by omega) (by omega)
  rw [Int.toNat_natCast] at h
  clear hx
  go_enter Tryz.func191, Tryz.ntmps191
  go_wp2_with (go_at_call 206; refine h.mono ?_; rintro e w' ⟨rfl, rfl⟩)
  go_ret
  exact ⟨rfl, rfl⟩
theorem lz_any (x : Nat) (hx : x < 18446744073709551616) (w : World) : Calls Tryz.prog 195 #[.int .u64 (x : Int)] w fun e w' => e = .returned (.int .i64 ((64 - Lib.bitLen x : Nat) : Int)) ∧ w = w' := by
  have h := len_any x hx
  have hl := Lib.bitLen_le x 64 (Nat.le_refl _) hx
  have e : (64 : Int) - (Lib.bitLen x : Int) = ((64 - Lib.bitLen x : Nat) : Int) := by omega
  clear hx
  go_enter Tryz.func195, Tryz.ntmps195
  go_wp2_with (go_at_call 191; refine (h _).mono ?_; rintro e w' ⟨rfl, rfl⟩)
  go_ret
  exact ⟨rfl, rfl⟩
theorem nlz_any (x : Nat) (hx : x < 18446744073709551616) (w : World) : Calls Tryz.prog 172 #[.int .u64 (x : Int)] w fun e w' => e = .returned (.int .u64 ((64 - Lib.bitLen x : Nat) : Int)) ∧ w = w' := by
  have h := lz_any x hx
  have hl : 64 - Lib.bitLen x ≤ 64 := by omega
  generalize 64 - Lib.bitLen x = q at *
  clear hx
  go_enter Tryz.func172, Tryz.ntmps172
  go_wp2_with (go_at_call 195; refine (h _).mono ?_; rintro e w' ⟨rfl, rfl⟩)
  go_ret
  exact ⟨rfl, rfl⟩
def Tab (w : World) : Prop := ∀ k, k < 64 → w.cell? ⟨7, k, none⟩ = some (.int .u8 (Lib.deBruijn64tab.getD k 0 : Nat))
set_option maxHeartbeats 1000000 in
theorem tz64_core (x k idx : Nat) (w : World) (hx0 : ((x : Int) == 0) = false)
    (key : IntKind.u64.wrap (bits BinOp.and IntKind.u64 (x : Int) (IntKind.u64.wrap (-(x : Int))) * 285870213051353865) / 288230376151711744 = (idx : Int))
    (hi : idx < 64) (hk : k < 64) (hcell : w.cell? ⟨7, idx, none⟩ = some (.int .u8 (k : Nat))) :
    Calls Tryz.prog 204 #[.int .u64 (x : Int)] w fun e w' => e = .returned (.int .i64 (k : Nat)) ∧ w = w' := by
  go_enter Tryz.func204, Tryz.ntmps204
  go_wp2_with (simp only [key])
  go_ret
  exact ⟨rfl, rfl⟩
theorem tz64_key (x a : Nat) (hx : x < 18446744073709551616) (hx0 : x ≠ 0) (hlow : x &&& (18446744073709551616 - x) = a) :
    IntKind.u64.wrap (bits BinOp.and IntKind.u64 (x : Int) (IntKind.u64.wrap (-(x : Int))) * 285870213051353865) / 288230376151711744 = ((a * 285870213051353865 % 18446744073709551616 / 288230376151711744 : Nat) : Int) := by
  have e1 : IntKind.u64.wrap (-(x : Int)) = ((18446744073709551616 - x : Nat) : Int) := by rw [IntKind.wrap_u64]; omega
  rw [e1, u64_and_nat x _ hx (by omega), hlow, IntKind.wrap_u64]
  omega
theorem tz64_any (x : Nat) (hx : x < 18446744073709551616) (hx0 : x ≠ 0) (w : World) (hT : Tab w) : Calls Tryz.prog 204 #[.int .u64 (x : Int)] w fun e w' => e = .returned (.int .i64 (Lib.ctz 64 x : Nat)) ∧ w = w' := by
  obtain ⟨hlow, hk⟩ := Lib.lowest_bit 64 x hx0 hx
  obtain ⟨hi, htab⟩ := Lib.deBruijn64_at _ hk
  have hcell := hT _ hi
  rw [htab] at hcell
  exact tz64_core x _ _ w (by simp; omega) (tz64_key x _ hx hx0 hlow) hi hk hcell
theorem tz_any (x : Nat) (hx : x < 18446744073709551616) (hx0 : x ≠ 0) (w : World) (hT : Tab w) : Calls Tryz.prog 189 #[.int .u64 (x : Int)] w fun e w' => e = .returned (.int .i64 (Lib.ctz 64 x : Nat)) ∧ w = w' := by
  have h := tz64_any x hx hx0 w hT
  clear hx hx0 hT
  go_enter Tryz.func189, Tryz.ntmps189
  go_wp2_with (go_at_call 204; refine h.mono ?_; rintro e w' ⟨rfl, rfl⟩)
  go_ret
  exact ⟨rfl, rfl⟩
end
section
def bl (n : Nat) : Nat := if n = 0 then 0 else n.log2 + 1
theorem bl_lt {x : Nat} : x < 2 ^ bl x := by
  unfold bl
  by_cases h : x = 0
  · rw [if_pos h, h]; decide
  · rw [if_neg h]; exact Nat.lt_log2_self
theorem bl_le {x k : Nat} (h : x < 2 ^ k) : bl x ≤ k := by
  unfold bl
  by_cases h0 : x = 0
  · rw [if_pos h0]; omega
  · rw [if_neg h0]; exact (Nat.log2_lt h0).2 h
theorem le_bl {x k : Nat} (h : 2 ^ k ≤ x) : k < bl x := by
  have p := Nat.two_pow_pos k
  unfold bl
  rw [if_neg (by omega)]
  have := (Nat.le_log2 (n := x) (k := k) (by omega)).2 h
  omega
theorem bl_spec {x : Nat} (h : x ≠ 0) : x < 2 ^ bl x ∧ 2 ^ (bl x - 1) ≤ x ∧ 1 ≤ bl x := by
  refine ⟨bl_lt, ?_, ?_⟩ <;> unfold bl <;> rw [if_neg h]
  · exact Nat.log2_self_le h
  · omega
theorem bl_unique {x k : Nat} (h1 : x < 2 ^ k) (h2 : k = 0 ∨ 2 ^ (k - 1) ≤ x) : bl x = k := by
  have := bl_le h1
  rcases h2 with rfl | h2
  · omega
  · have := le_bl h2; omega
theorem or_lt64 {a k : Nat} (h : a < 18446744073709551616) : a ||| a / 2 ^ k < 18446744073709551616 :=
  Nat.or_lt_two_pow (n := 64) h (Nat.lt_of_le_of_lt (Nat.div_le_self _ _) h)
theorem bl_or (a k : Nat) : bl (a ||| a / 2 ^ k) = bl a := by
  refine bl_unique (Nat.or_lt_two_pow bl_lt (Nat.lt_of_le_of_lt (Nat.div_le_self _ _) bl_lt)) ?_
  by_cases h : a = 0
  · left; subst h; rfl
  · right; exact Nat.le_trans (bl_spec h).2.1 Nat.left_le_or
theorem aux_bl : ∀ (f x : Nat), x < 2 ^ f → Lib.bitLenAux f x = bl x := by
  intro f
  induction f with
  | zero => intro x h; have : x = 0 := by omega
            subst this; rfl
  | succ f ih =>
    intro x h
    unfold Lib.bitLenAux
    by_cases h0 : x = 0
    · subst h0; rfl
    · rw [if_neg h0, ih (x / 2) (by rw [Nat.pow_succ] at h; omega)]
      symm
      have a := bl_lt (x := x / 2)
      refine bl_unique (by rw [Nat.add_comm, Nat.pow_succ]; omega) (.inr ?_)
      rw [Nat.add_sub_cancel_left]
      by_cases h2 : x / 2 = 0
      · rw [h2]; show 2 ^ 0 ≤ x; omega
      · have := (bl_spec h2).2.1
        have b := (bl_spec h2).2.2
        have : 2 ^ bl (x / 2) = 2 ^ (bl (x / 2) - 1) * 2 := by rw [← Nat.pow_succ]; congr 1; omega
        omega
theorem bl_lib {x : Nat} (h : x < 18446744073709551616) : Lib.bitLen x = bl x := aux_bl 64 x h
theorem vl_lt' {f : Nat → Nat} : ∀ {n : Nat}, (∀ i, i < n → f i < 18446744073709551616) → vl f n < 18446744073709551616 ^ n
  | 0, _ => by show 0 < 1; omega
  | n + 1, hf => by
    have a := vl_lt' (n := n) fun i hi => hf i (by omega)
    have b := hf n (by omega)
    show vl f n + f n * 18446744073709551616 ^ n < 18446744073709551616 ^ (n + 1)
    rw [Nat.pow_succ]
    have := Nat.mul_le_mul_right (18446744073709551616 ^ n) (show f n + 1 ≤ 18446744073709551616 by omega)
    rw [Nat.add_mul, Nat.one_mul] at this
    rw [Nat.mul_comm (18446744073709551616 ^ n)]
    omega
theorem bl_vl {f : Nat → Nat} {k : Nat} (hf : ∀ i, i < k + 1 → f i < 18446744073709551616) (h : f k ≠ 0) : bl (vl f (k + 1)) = k * 64 + bl (f k) := by
  have e : (18446744073709551616 : Nat) ^ k = 2 ^ (64 * k) := by rw [Nat.pow_mul]
  have a := vl_lt' (n := k) fun i hi => hf i (by omega)
  obtain ⟨b, c, d⟩ := bl_spec h
  show bl (vl f k + f k * 18446744073709551616 ^ k) = _
  rw [e] at *
  refine bl_unique ?_ (.inr ?_)
  · rw [Nat.mul_comm k 64, Nat.pow_add]
    have := Nat.mul_le_mul_right (2 ^ (64 * k)) b
    rw [Nat.succ_mul, Nat.mul_comm (2 ^ bl (f k))] at this
    omega
  · rw [show k * 64 + bl (f k) - 1 = 64 * k + (bl (f k) - 1) by omega, Nat.pow_add]
    have := Nat.mul_le_mul_right (2 ^ (64 * k)) c
    rw [Nat.mul_comm (2 ^ (bl (f k) - 1))] at this
    omega
end
end Go.Proofs.YtllapbkoildfiaaGreatFmt
