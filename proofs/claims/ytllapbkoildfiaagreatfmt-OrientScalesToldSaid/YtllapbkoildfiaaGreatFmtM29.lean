/- The plain law of math/big's Float64: the word that it gives, and the ways to round, lie next to the number · math/big.Float.Float64: the plain part · math/big.Float.Float64: the walks. -/
import Derived.Test.YtllapbkoildfiaaGreatFmtM20
import Derived.Test.YtllapbkoildfiaaGreatFmtM25
import Derived.Test.YtllapbkoildfiaaGreatFmtM28
import Derived.BigQuiet
set_option linter.all false
namespace Go.Proofs.YtllapbkoildfiaaGreatFmt
section
def wd (ng : Bool) (r : Nat) : Nat := if ng then 9223372036854775808 + r else r
def lp (A J : Nat) : Nat := bl A - (53 + J)
def dp (A J : Nat) : Nat := lp A J + J
def r0 (A J : Nat) : Nat := lp A J * 4503599627370496 + A / 2 ^ dp A J
def r1 (A J : Nat) : Nat := r0 A J + (rup A (dp A J)).toNat
def fw (A J : Nat) (ng : Bool) : Nat := wd ng (min (r1 A J) 9218868437227405312)
def fa (A J : Nat) (ng : Bool) : Int := if 9218868437227405312 ≤ r1 A J then accOf true ng else if A % 2 ^ dp A J = 0 then 0 else accOf (rup A (dp A J)) ng
theorem q_lt (A J : Nat) : A / 2 ^ dp A J < 9007199254740992 := by
  rw [Nat.div_lt_iff_lt_mul (Nat.two_pow_pos _), show (9007199254740992 : Nat) = 2 ^ 53 by decide, ← Nat.pow_add]
  refine Nat.lt_of_lt_of_le bl_lt (Nat.pow_le_pow_right (by omega) ?_)
  unfold dp lp; omega
theorem q_ge {A J : Nat} (h : lp A J ≠ 0) : 4503599627370496 ≤ A / 2 ^ dp A J := by
  have h0 : A ≠ 0 := fun e => h (by unfold lp; rw [e]; show 0 - _ = 0; omega)
  rw [Nat.le_div_iff_mul_le (Nat.two_pow_pos _), show (4503599627370496 : Nat) = 2 ^ 52 by decide, ← Nat.pow_add]
  refine Nat.le_trans (Nat.pow_le_pow_right (by omega) ?_) (bl_spec h0).2.1
  unfold dp; unfold lp at h ⊢; omega
theorem mg_r0 (A J : Nat) : mg (r0 A J) = A / 2 ^ dp A J * 2 ^ lp A J := by
  have h1 := q_lt A J
  have h2 := @q_ge A J
  unfold r0
  refine mg_at ?_
  by_cases h : lp A J = 0
  · exact .inl ⟨h, h1⟩
  · have := h2 h; exact .inr ⟨this, by omega⟩
theorem mg_r0s (A J : Nat) : mg (r0 A J + 1) = (A / 2 ^ dp A J + 1) * 2 ^ lp A J := by
  have h1 := q_lt A J
  have h2 := @q_ge A J
  unfold r0
  rw [Nat.add_assoc]
  refine mg_at ?_
  by_cases h : lp A J = 0
  · omega
  · have := h2 h; omega
theorem r0_le (A J : Nat) : mg (r0 A J) * 2 ^ J ≤ A := by
  rw [mg_r0, Nat.mul_assoc, ← Nat.pow_add]
  exact Nat.div_mul_le_self _ _
theorem r0_gt (A J : Nat) : A < mg (r0 A J + 1) * 2 ^ J := by
  rw [mg_r0s, Nat.mul_assoc, ← Nat.pow_add, Nat.mul_comm]
  exact Nat.lt_mul_div_succ _ (Nat.two_pow_pos _)
theorem r0_eq {A J : Nat} (h : A % 2 ^ dp A J = 0) : mg (r0 A J) * 2 ^ J = A := by
  rw [mg_r0, Nat.mul_assoc, ← Nat.pow_add]
  exact Nat.div_mul_cancel (Nat.dvd_of_mod_eq_zero h)
theorem rup_no {M K : Nat} (h : M % 2 ^ K = 0) : rup M K = false := by
  have := Nat.two_pow_pos K
  unfold rup
  rw [h]
  exact decide_eq_false (by omega)
theorem wd_nn {ng : Bool} {r : Nat} (h : r ≤ 9218868437227405312) : NN (wd ng r) := by
  unfold wd NN
  cases ng
  · rw [if_neg (by decide)]; omega
  · rw [if_pos rfl]; omega
theorem wd_fin {ng : Bool} {r : Nat} (h : r < 9218868437227405312) : Fin64 (wd ng r) := by
  unfold wd Fin64
  cases ng
  · rw [if_neg (by decide)]; omega
  · rw [if_pos rfl]; omega
theorem wd_f (r : Nat) : wd false r = r := rfl
theorem wd_t (r : Nat) : wd true r = 9223372036854775808 + r := rfl
theorem ite_f {α : Type} (a b : α) : (if false = true then a else b) = b := rfl
theorem ite_t {α : Type} (a b : α) : (if true = true then a else b) = a := rfl
theorem wd_fv (ng : Bool) {r : Nat} (h : r < 9223372036854775808) : fv (wd ng r) = if ng then -((mg r : Nat) : Int) else ((mg r : Nat) : Int) := by
  unfold fv
  cases ng
  · rw [wd_f, if_neg (by omega), Nat.mod_eq_of_lt h, ite_f]
  · rw [wd_t, if_pos (by omega), Nat.add_mod_left, Nat.mod_eq_of_lt h, ite_t]
theorem wd_rk (ng : Bool) {r : Nat} (h : r < 9223372036854775808) : rk (wd ng r) = if ng then -(r : Int) else (r : Int) := by
  unfold rk
  cases ng
  · rw [wd_f, if_neg (by omega), Nat.mod_eq_of_lt h, ite_f]
  · rw [wd_t, if_pos (by omega), Nat.add_mod_left, Nat.mod_eq_of_lt h, ite_t]
theorem wd_opp (ng : Bool) {r : Nat} (h : r < 9223372036854775808) : opp (wd ng r) = wd (!ng) r := by
  unfold opp
  cases ng
  · rw [wd_f, if_pos h, Nat.add_comm]; rfl
  · rw [wd_t, if_neg (by omega), Nat.add_sub_cancel_left]; rfl
theorem nx_pos {r : Nat} (h : r < 9218868437227405312) : nx (wd false r) = wd false (r + 1) := by
  show nx r = r + 1
  unfold nx
  rw [if_neg (by omega)]
  split
  · omega
  · rw [if_pos (by omega)]
theorem nx_neg {r : Nat} (h : r < 9218868437227405312) : nx (wd true (r + 1)) = wd true r := by
  show nx (9223372036854775808 + (r + 1)) = 9223372036854775808 + r
  unfold nx
  rw [if_neg (by omega), if_neg (by omega), if_neg (by omega)]
  omega
theorem pv_pos {r : Nat} (h : r < 9218868437227405312) : pv (wd false (r + 1)) = wd false r := by
  unfold pv
  rw [wd_opp false (by omega), show (!false) = true from rfl, nx_neg h, wd_opp true (by omega)]; rfl
theorem pv_neg {r : Nat} (h : r < 9218868437227405312) : pv (wd true r) = wd true (r + 1) := by
  unfold pv
  rw [wd_opp true (by omega), show (!true) = false from rfl, nx_pos h, wd_opp false (by omega)]; rfl
def sg (n : Nat) (b : Bool) : Nat := if n % 9223372036854775808 = 0 then (if b then 9223372036854775808 else 0) else n
def dn (b : Nat) (acc : Int) (ng : Bool) : Nat := if acc = 0 then b else sg (if acc = 1 then pv b else b) ng
def uw (b : Nat) (acc : Int) (ng : Bool) : Nat := if acc = 0 then b else sg (if acc = 1 then b else nx b) ng
def nw (b : Nat) (acc : Int) (ng : Bool) : Nat := if acc = 0 then b else sg b ng
theorem dn_0 (b : Nat) (ng : Bool) : dn b 0 ng = b := if_pos rfl
theorem dn_1 (b : Nat) (ng : Bool) : dn b 1 ng = sg (pv b) ng := by unfold dn; rw [if_neg (by decide), if_pos rfl]
theorem dn_m (b : Nat) (ng : Bool) : dn b (-1) ng = sg b ng := by unfold dn; rw [if_neg (by decide), if_neg (by decide)]
theorem uw_0 (b : Nat) (ng : Bool) : uw b 0 ng = b := if_pos rfl
theorem uw_1 (b : Nat) (ng : Bool) : uw b 1 ng = sg b ng := by unfold uw; rw [if_neg (by decide), if_pos rfl]
theorem uw_m (b : Nat) (ng : Bool) : uw b (-1) ng = sg (nx b) ng := by unfold uw; rw [if_neg (by decide), if_neg (by decide)]
theorem acc_tf : accOf true false = 1 := rfl
theorem acc_tt : accOf true true = -1 := rfl
theorem acc_ff : accOf false false = -1 := rfl
theorem acc_ft : accOf false true = 1 := rfl
def Lo (b : Nat) (U : Int) (J : Nat) : Prop := NN b ∧ (rk b = -9218868437227405312 ∨ Fin64 b ∧ fv b * 2 ^ J ≤ U)
def Hi (b : Nat) (U : Int) (J : Nat) : Prop := NN b ∧ (rk b = 9218868437227405312 ∨ Fin64 b ∧ U ≤ fv b * 2 ^ J)
theorem Lo.opp {b : Nat} {U : Int} {J : Nat} (h : Lo b U J) : Hi (opp b) (-U) J := by
  refine ⟨h.1.opp, ?_⟩
  rcases h.2 with g | ⟨g1, g2⟩
  · left; rw [rk_opp h.1.1, g]; rfl
  · right; refine ⟨g1.opp, ?_⟩; rw [fv_opp h.1.1, Int.neg_mul]; omega
theorem lo_pos {r A J : Nat} (h : r < 9218868437227405312) (hb : mg r * 2 ^ J ≤ A) : Lo (wd false r) (A : Int) J := by
  refine ⟨wd_nn (by omega), .inr ⟨wd_fin h, ?_⟩⟩
  rw [wd_fv false (by omega), if_neg (by decide)]
  exact_mod_cast hb
theorem lo_neg {r A J : Nat} (h : r ≤ 9218868437227405312) (hb : r < 9218868437227405312 → A ≤ mg r * 2 ^ J) : Lo (wd true r) (-(A : Int)) J := by
  refine ⟨wd_nn h, ?_⟩
  rcases Nat.lt_or_ge r 9218868437227405312 with g | g
  · refine .inr ⟨wd_fin g, ?_⟩
    rw [wd_fv true (by omega), if_pos rfl, Int.neg_mul]
    have := hb g
    have : (A : Int) ≤ ((mg r : Nat) : Int) * 2 ^ J := by exact_mod_cast this
    omega
  · left
    rw [wd_rk true (by omega), if_pos rfl]
    omega
theorem nought_f : NN 0 ∧ rk 0 = 0 ∧ fv 0 = 0 ∧ Fin64 0 := ⟨⟨by omega, by omega⟩, rk_zero, fv_zero.2 (Nat.zero_mod _), ⟨by omega, by omega⟩⟩
theorem nought_t : NN 9223372036854775808 ∧ rk 9223372036854775808 = 0 ∧ fv 9223372036854775808 = 0 ∧ Fin64 9223372036854775808 :=
  ⟨⟨by omega, by omega⟩, by unfold rk; rw [if_pos (by omega)]; omega, fv_zero.2 (by omega), ⟨by omega, by omega⟩⟩
theorem sg_at {b : Nat} {ng : Bool} (g : b % 9223372036854775808 = 0) : sg b ng = if ng then 9223372036854775808 else 0 := by unfold sg; rw [if_pos g]
theorem sg_id {b : Nat} {ng : Bool} (g : ¬ b % 9223372036854775808 = 0) : sg b ng = b := by unfold sg; rw [if_neg g]
theorem rk_at {b : Nat} (g : b % 9223372036854775808 = 0) : rk b = 0 := by
  unfold rk
  rw [g]
  split <;> omega
theorem sg_0 {b : Nat} {ng : Bool} (g : b % 9223372036854775808 = 0) : NN (sg b ng) ∧ rk (sg b ng) = 0 ∧ fv (sg b ng) = 0 ∧ Fin64 (sg b ng) := by
  rw [sg_at g]
  cases ng
  · rw [ite_f]; exact nought_f
  · rw [ite_t]; exact nought_t
theorem sg_val {b : Nat} {ng : Bool} (h : NN b) : NN (sg b ng) ∧ rk (sg b ng) = rk b ∧ fv (sg b ng) = fv b ∧ (Fin64 b → Fin64 (sg b ng)) := by
  by_cases g : b % 9223372036854775808 = 0
  · obtain ⟨h1, h2, h3, h4⟩ := sg_0 (ng := ng) g
    exact ⟨h1, h2.trans (rk_at g).symm, h3.trans (fv_zero.2 g).symm, fun _ => h4⟩
  · rw [sg_id g]
    exact ⟨h, rfl, rfl, id⟩
theorem Lo.sg {b : Nat} {U : Int} {J : Nat} (h : Lo b U J) (ng : Bool) : Lo (sg b ng) U J := by
  obtain ⟨h1, h2, h3, h4⟩ := sg_val (ng := ng) h.1
  refine ⟨h1, ?_⟩
  rw [h2, h3]
  exact h.2.imp id fun g => ⟨h4 g.1, g.2⟩
theorem sg_opp {b : Nat} {ng : Bool} (h : b < 18446744073709551616) : sg (opp b) (!ng) = opp (sg b ng) := by
  by_cases g : b % 9223372036854775808 = 0
  · rw [sg_at g, sg_at (by rw [opp_rung h]; exact g)]
    unfold opp
    cases ng
    · rw [ite_f, show (!false) = true from rfl, ite_t, if_pos (by omega)]
    · rw [ite_t, show (!true) = false from rfl, ite_f, if_neg (by omega)]
  · rw [sg_id g, sg_id (by rw [opp_rung h]; exact g)]
theorem r1_up {A J : Nat} (h : rup A (dp A J) = true) : r1 A J = r0 A J + 1 := by unfold r1; rw [h]; rfl
theorem r1_no {A J : Nat} (h : rup A (dp A J) = false) : r1 A J = r0 A J := by unfold r1; rw [h]; exact Nat.add_zero _
theorem r1_le (A J : Nat) : r1 A J ≤ r0 A J + 1 := by unfold r1; cases rup A (dp A J) <;> simp
theorem down_pos (A J : Nat) : Lo (dn (fw A J false) (fa A J false) false) (A : Int) J := by
  have hle := r0_le A J
  have h1 := r1_le A J
  unfold fw fa
  by_cases hi : 9218868437227405312 ≤ r1 A J
  · rw [if_pos hi, Nat.min_eq_right hi, acc_tf, dn_1]
    have e := pv_pos (r := 9218868437227405311) (by omega)
    rw [show 9218868437227405311 + 1 = 9218868437227405312 from rfl] at e
    rw [e]
    exact (lo_pos (by omega) (Nat.le_trans (Nat.mul_le_mul_right _ (mg_le (by omega))) hle)).sg _
  · rw [if_neg hi, Nat.min_eq_left (by omega)]
    by_cases hx : A % 2 ^ dp A J = 0
    · have e := r1_no (rup_no hx)
      rw [if_pos hx, e, dn_0]
      exact lo_pos (by omega) hle
    · rw [if_neg hx]
      cases hu : rup A (dp A J)
      · have e := r1_no hu
        rw [e, acc_ff, dn_m]
        exact (lo_pos (by omega) hle).sg _
      · have e := r1_up hu
        rw [e, acc_tf, dn_1, pv_pos (by omega)]
        exact (lo_pos (by omega) hle).sg _
theorem down_neg (A J : Nat) : Lo (dn (fw A J true) (fa A J true) true) (-(A : Int)) J := by
  have hgt := r0_gt A J
  have h1 := r1_le A J
  unfold fw fa
  by_cases hi : 9218868437227405312 ≤ r1 A J
  · rw [if_pos hi, Nat.min_eq_right hi, acc_tt, dn_m]
    exact (lo_neg (by omega) (by omega)).sg _
  · rw [if_neg hi, Nat.min_eq_left (by omega)]
    by_cases hx : A % 2 ^ dp A J = 0
    · have e := r1_no (rup_no hx)
      rw [if_pos hx, e, dn_0]
      exact lo_neg (by omega) fun _ => Nat.le_of_eq (r0_eq hx).symm
    · rw [if_neg hx]
      cases hu : rup A (dp A J)
      · have e := r1_no hu
        rw [e, acc_ft, dn_1, pv_neg (by omega)]
        exact (lo_neg (by omega) fun _ => Nat.le_of_lt hgt).sg _
      · have e := r1_up hu
        rw [e, acc_tt, dn_m]
        exact (lo_neg (by omega) fun _ => Nat.le_of_lt hgt).sg _
theorem fw_opp (A J : Nat) (ng : Bool) : fw A J (!ng) = opp (fw A J ng) := by
  unfold fw
  rw [wd_opp ng (by omega)]
theorem fa_opp (A J : Nat) (ng : Bool) : fa A J (!ng) = -fa A J ng := by
  unfold fa
  split
  · cases ng <;> rfl
  · split
    · rfl
    · cases rup A (dp A J) <;> cases ng <;> rfl
theorem fa_cases (A J : Nat) (ng : Bool) : fa A J ng = 0 ∨ fa A J ng = 1 ∨ fa A J ng = -1 := by
  have a : ∀ u, accOf u ng = 1 ∨ accOf u ng = -1 := fun u => by unfold accOf; split <;> simp
  unfold fa
  split
  · exact .inr (a _)
  · split
    · exact .inl rfl
    · exact .inr (a _)
theorem fw_nn (A J : Nat) (ng : Bool) : NN (fw A J ng) := by unfold fw; exact wd_nn (by omega)
theorem uw_opp {b : Nat} {acc : Int} {ng : Bool} (hb : NN b) (h : acc = 0 ∨ acc = 1 ∨ acc = -1) : uw b acc ng = opp (dn (opp b) (-acc) (!ng)) := by
  rcases h with rfl | rfl | rfl
  · rw [uw_0, show (-0 : Int) = 0 from rfl, dn_0, opp_opp hb.1]
  · rw [uw_1, dn_m, sg_opp hb.1, opp_opp (sg_val hb).1.1]
  · have e : pv (opp b) = opp (nx b) := by unfold pv; rw [opp_opp hb.1]
    rw [uw_m, show (- -1 : Int) = 1 from rfl, dn_1, e, sg_opp (nx_nn hb).1, opp_opp (sg_val (nx_nn hb)).1.1]
theorem down_ok (z : Int) (J : Nat) : Lo (dn (fw z.natAbs J (decide (z < 0))) (fa z.natAbs J (decide (z < 0))) (decide (z < 0))) z J := by
  by_cases h : z < 0
  · have := down_neg z.natAbs J
    rw [decide_eq_true h]
    rwa [show -((z.natAbs : Nat) : Int) = z by omega] at this
  · have := down_pos z.natAbs J
    rw [decide_eq_false h]
    rwa [show ((z.natAbs : Nat) : Int) = z by omega] at this
theorem up_ok (z : Int) (J : Nat) : Hi (uw (fw z.natAbs J (decide (z < 0))) (fa z.natAbs J (decide (z < 0))) (decide (z < 0))) z J := by
  rw [uw_opp (fw_nn _ _ _) (fa_cases _ _ _), ← fw_opp, ← fa_opp]
  by_cases h : z < 0
  · have := (down_pos z.natAbs J).opp
    rw [decide_eq_true h]
    rwa [show -((z.natAbs : Nat) : Int) = z by omega] at this
  · have := (down_neg z.natAbs J).opp
    rw [decide_eq_false h]
    rwa [show - -((z.natAbs : Nat) : Int) = z by omega] at this
theorem mg_r1 (A : Nat) : mg (r1 A 0) = rnN A := by
  have e : dp A 0 = lp A 0 := rfl
  have e2 : lp A 0 = A.log2 - 52 := by
    unfold lp bl
    split
    · rename_i h; rw [h]; rfl
    · omega
  unfold rnN upN
  rw [← e2]
  have h0 := mg_r0 A 0
  have h1 := mg_r0s A 0
  rw [e] at h0 h1
  have key : (rup A (dp A 0) = true) ↔ (2 ^ lp A 0 < 2 * (A % 2 ^ lp A 0) ∨ (2 ^ lp A 0 = 2 * (A % 2 ^ lp A 0) ∧ A / 2 ^ lp A 0 % 2 = 1)) := by
    unfold rup
    rw [e, decide_eq_true_iff]
    omega
  cases hu : rup A (dp A 0)
  · rw [r1_no hu, if_neg (fun g => by rw [key.2 g] at hu; cases hu)]; exact h0
  · rw [r1_up hu, if_pos (key.1 hu)]; exact h1
theorem near_ok (z : Int) (hb : (rn z).natAbs < 9007199254740992 * 2 ^ 2045) : Fin64 (nw (fw z.natAbs 0 (decide (z < 0))) (fa z.natAbs 0 (decide (z < 0))) (decide (z < 0))) ∧ fv (nw (fw z.natAbs 0 (decide (z < 0))) (fa z.natAbs 0 (decide (z < 0))) (decide (z < 0))) = rn z := by
  rw [rn_abs, ← mg_r1] at hb
  have hr : r1 z.natAbs 0 < 9218868437227405312 := by
    rcases Nat.lt_or_ge (r1 z.natAbs 0) 9218868437227405312 with g | g
    · exact g
    · have h1 := mg_le g
      have h2 := mg_at (L := 2046) (c := 4503599627370496) (.inr ⟨by omega, by omega⟩)
      rw [show 2046 * 4503599627370496 + 4503599627370496 = 9218868437227405312 from rfl] at h2
      set_option exponentiation.threshold 100000 in have h3 : (2 : Nat) ^ (2045 + 1) = 2 ^ 2045 * 2 := Nat.pow_succ ..
      rw [show 2045 + 1 = 2046 from rfl] at h3
      rw [h3] at h2
      generalize (2 : Nat) ^ 2045 = W at *
      omega
  have hv : fv (fw z.natAbs 0 (decide (z < 0))) = rn z := by
    unfold fw
    rw [Nat.min_eq_left (Nat.le_of_lt hr), wd_fv _ (Nat.lt_trans hr (by omega)), mg_r1]
    unfold rn
    by_cases h : z < 0
    · rw [decide_eq_true h, if_pos rfl, if_pos h]
    · rw [decide_eq_false h, if_neg (by decide), if_neg h]
  have hf : Fin64 (fw z.natAbs 0 (decide (z < 0))) := by
    unfold fw
    rw [Nat.min_eq_left (Nat.le_of_lt hr)]
    exact wd_fin hr
  unfold nw
  split
  · exact ⟨hf, hv⟩
  · obtain ⟨-, -, h3, h4⟩ := sg_val (ng := decide (z < 0)) (fw_nn z.natAbs 0 (decide (z < 0)))
    exact ⟨h4 hf, h3.trans hv⟩
theorem cut_same {M K A D a b : Nat} (h : M * 2 ^ a = A * 2 ^ b) (hk : K + a = D + b) : M / 2 ^ K = A / 2 ^ D ∧ rup M K = rup A D ∧ (M % 2 ^ K = 0 ↔ A % 2 ^ D = 0) := by
  have pa := Nat.two_pow_pos a
  have pb := Nat.two_pow_pos b
  have e3 : 2 ^ K * 2 ^ a = 2 ^ D * 2 ^ b := by rw [← Nat.pow_add, ← Nat.pow_add, hk]
  have e1 : M / 2 ^ K = A / 2 ^ D := by
    rw [← Nat.mul_div_mul_right M (2 ^ K) pa, h, e3, Nat.mul_div_mul_right _ _ pb]
  have e2 : M % 2 ^ K * 2 ^ a = A % 2 ^ D * 2 ^ b := by
    rw [← Nat.mul_mod_mul_right, h, e3, Nat.mul_mod_mul_right]
  have cmp : ∀ {x y x' y' : Nat}, x * 2 ^ a = x' * 2 ^ b → y * 2 ^ a = y' * 2 ^ b → ((x < y ↔ x' < y') ∧ (x = y ↔ x' = y')) := fun {x y x' y'} h1 h2 => by
    refine ⟨⟨fun g => ?_, fun g => ?_⟩, ⟨fun g => ?_, fun g => ?_⟩⟩
    · have := Nat.mul_lt_mul_of_pos_right g pa
      rw [h1, h2] at this
      exact Nat.lt_of_mul_lt_mul_right this
    · have := Nat.mul_lt_mul_of_pos_right g pb
      rw [← h1, ← h2] at this
      exact Nat.lt_of_mul_lt_mul_right this
    · rw [g, h2] at h1
      exact (Nat.eq_of_mul_eq_mul_right pb h1).symm
    · rw [g, ← h2] at h1
      exact Nat.eq_of_mul_eq_mul_right pa h1
  have t2 : 2 * (M % 2 ^ K) * 2 ^ a = 2 * (A % 2 ^ D) * 2 ^ b := by rw [Nat.mul_assoc, Nat.mul_assoc, e2]
  obtain ⟨c1, -⟩ := cmp e3 t2
  obtain ⟨-, c2⟩ := cmp t2 e3
  obtain ⟨-, c3⟩ := cmp (x := M % 2 ^ K) (x' := A % 2 ^ D) (y := 0) (y' := 0) e2 (by rw [Nat.zero_mul, Nat.zero_mul])
  refine ⟨e1, ?_, c3⟩
  unfold rup
  rw [e1, decide_eq_decide, c1, c2]
end
section
open Go.RowKit
structure Mq (M n : Nat) (ex : Int) (A J : Nat) : Prop where
  a0 : A ≠ 0
  hb : (bl A : Int) = ex + 1074 + J
  ab : ∃ a b, M * 2 ^ a = A * 2 ^ b ∧ 64 * n + a = bl A + b
theorem Mq.cut {M n : Nat} {ex : Int} {A J : Nat} (h : Mq M n ex A J) {K D : Nat} (hk : 64 * n + D = bl A + K) : M / 2 ^ K = A / 2 ^ D ∧ rup M K = rup A D ∧ (M % 2 ^ K = 0 ↔ A % 2 ^ D = 0) := by
  obtain ⟨a, b, h1, h2⟩ := h.ab
  exact cut_same h1 (by omega)
theorem ite_iff {p q : Prop} [Decidable p] [Decidable q] {α : Type} {a b : α} (h : p ↔ q) : (if p then a else b) = if q then a else b := by
  by_cases g : p
  · rw [if_pos g, if_pos (h.1 g)]
  · rw [if_neg g, if_neg fun k => g (h.2 k)]
theorem wd_or (ng : Bool) {E m : Nat} (hE : E ≤ 2047) (hm : m < 4503599627370496) :
    ((if ng then 9223372036854775808 else 0) ||| E * 4503599627370496) = (if ng then 9223372036854775808 else 0) + E * 4503599627370496 ∧ (((if ng then 9223372036854775808 else 0) + E * 4503599627370496) ||| m) = wd ng (E * 4503599627370496 + m) := by
  have e52 : (2 : Nat) ^ 52 = 4503599627370496 := by decide
  have o1 : ∀ k : Nat, (k * 4503599627370496 ||| m) = k * 4503599627370496 + m := fun k => by
    have := Nat.two_pow_add_eq_or_of_lt (i := 52) (b := m) (by rw [e52]; exact hm) k
    rw [e52, Nat.mul_comm] at this
    exact this.symm
  have o2 : (9223372036854775808 ||| E * 4503599627370496) = 9223372036854775808 + E * 4503599627370496 := by
    have := Nat.two_pow_add_eq_or_of_lt (i := 63) (b := E * 4503599627370496) (by rw [pw63]; omega) 1
    rw [pw63] at this
    simpa using this.symm
  unfold wd
  cases ng
  · rw [ite_f, ite_f, Nat.zero_or, Nat.zero_add]
    exact ⟨rfl, o1 E⟩
  · rw [ite_t, ite_t]
    refine ⟨o2, ?_⟩
    have := o1 (2048 + E)
    rw [Nat.add_mul] at this
    rw [show 2048 * 4503599627370496 = 9223372036854775808 from rfl] at this
    rw [this, Nat.add_assoc]
variable {M n A J : Nat} {ex acc' ex' : Int} {v : Nat} {ng : Bool}
theorem Mq.lpe (h : Mq M n ex A J) : (lp A J : Int) = max (ex + 1021) 0 := by
  have := h.hb
  unfold lp
  omega
theorem Mq.nor (h : Mq M n ex A J) (he : -1021 ≤ ex) (hn : 53 ≤ 64 * n) (hC : Cut M (64 * n - 53) 53 (64 - 53) ng ex acc' ex' v) :
    (1024 < ex' → 9218868437227405312 ≤ r1 A J) ∧ -1021 ≤ ex' ∧ (ex' ≤ 1024 → r1 A J < 9218868437227405312 ∧ acc' = fa A J ng ∧ ∃ E m : Nat, ex' = (E : Int) - 1022 ∧ v / 2048 % 4503599627370496 = m ∧ r1 A J = E * 4503599627370496 + m ∧ E ≤ 2047) := by
  have hlp := h.lpe
  have hbl := h.hb
  have hdp : dp A J = bl A - 53 := by unfold dp; omega
  obtain ⟨c1, c2, c3⟩ := h.cut (K := 64 * n - 53) (D := dp A J) (by omega)
  have q1 := q_lt A J
  have q2 : 4503599627370496 ≤ A / 2 ^ dp A J := by
    rw [Nat.le_div_iff_mul_le (Nat.two_pow_pos _), show (4503599627370496 : Nat) = 2 ^ 52 by decide, ← Nat.pow_add]
    refine Nat.le_trans (Nat.pow_le_pow_right (by omega) ?_) (bl_spec h.a0).2.1
    omega
  obtain ⟨ha, hf, hp⟩ := hC
  rw [c1, c2] at hf hp
  rw [c2, show (if M % 2 ^ (64 * n - 53) = 0 then (0 : Int) else accOf (rup A (dp A J)) ng) = if A % 2 ^ dp A J = 0 then 0 else accOf (rup A (dp A J)) ng from ite_iff c3] at ha
  have hr : r1 A J = lp A J * 4503599627370496 + (A / 2 ^ dp A J + (rup A (dp A J)).toNat) := by unfold r1 r0; omega
  have hu : (rup A (dp A J)).toNat ≤ 1 := by cases rup A (dp A J) <;> simp
  have hfa : r1 A J < 9218868437227405312 → acc' = fa A J ng := fun k => by unfold fa; rw [if_neg (by omega)]; exact ha
  rw [show (2 : Nat) ^ 53 = 9007199254740992 from by decide] at hf hp
  obtain ⟨q, hqe⟩ : ∃ q, q = A / 2 ^ dp A J + (rup A (dp A J)).toNat := ⟨_, rfl⟩
  rw [← hqe] at hf hp hr
  have q3 : 4503599627370496 ≤ q ∧ q ≤ 9007199254740992 := by omega
  have hl2 : ex + 1021 = (lp A J : Int) := by omega
  clear hqe q1 q2 hu c1 c2 c3 ha hlp hbl hdp h
  generalize lp A J = l at *
  generalize r1 A J = r at *
  by_cases g : q = 9007199254740992
  · obtain ⟨g1, g2⟩ := hf g
    clear hf hp
    refine ⟨fun k => by omega, by omega, fun k => ?_⟩
    have k1 : r < 9218868437227405312 := by omega
    obtain ⟨E, hE⟩ : ∃ E : Nat, (E : Int) = ex' + 1022 := ⟨(ex' + 1022).toNat, by omega⟩
    have g3 : v = 9223372036854775808 := g1.trans pw63
    have a1 : v / 2048 % 4503599627370496 = 0 := by omega
    have hE2 : E = l + 2 := by omega
    have a2 : r = E * 4503599627370496 + 0 := by
      rw [hr, g, hE2, Nat.add_mul, Nat.add_zero]
    have a0 : ex' = (E : Int) - 1022 := by omega
    have a3 : E ≤ 2047 := by omega
    exact ⟨k1, hfa k1, E, 0, a0, a1, a2, a3⟩
  · obtain ⟨g1, g2⟩ := hp g
    clear hf hp
    refine ⟨fun k => by omega, by omega, fun k => ?_⟩
    have k1 : r < 9218868437227405312 := by omega
    obtain ⟨E, hE⟩ : ∃ E : Nat, (E : Int) = ex' + 1022 := ⟨(ex' + 1022).toNat, by omega⟩
    have g3 : v = q * 2048 := g1
    have a1 : v / 2048 % 4503599627370496 = q - 4503599627370496 := by omega
    have hE2 : E = l + 1 := by omega
    have a2 : r = E * 4503599627370496 + (q - 4503599627370496) := by
      rw [hr, hE2, Nat.add_mul, Nat.one_mul, Nat.add_assoc, Nat.add_sub_cancel' q3.1]
    have a0 : ex' = (E : Int) - 1022 := by omega
    have a3 : E ≤ 2047 := by omega
    generalize q - 4503599627370496 = m at *
    exact ⟨k1, hfa k1, E, m, a0, a1, a2, a3⟩
theorem Mq.den (h : Mq M n ex A J) {pr : Nat} (hpr : (pr : Int) = 1074 + ex) (p1 : 1 ≤ pr) (p2 : pr ≤ 52) (hn : 53 ≤ 64 * n) (hC : Cut M (64 * n - pr) pr (64 - pr) ng ex acc' ex' v) :
    acc' = fa A J ng ∧ ((ex' = -1021 ∧ v / 2048 % 4503599627370496 = 0 ∧ r1 A J = 4503599627370496) ∨
      (ex' < -1021 ∧ ∃ p' : Nat, (p' : Int) = 1074 + ex' ∧ 1 ≤ p' ∧ p' ≤ 52 ∧ v / 2 ^ (64 - p') = r1 A J ∧ r1 A J < 4503599627370496)) := by
  have hlp := h.lpe
  have hbl := h.hb
  have hl0 : lp A J = 0 := by omega
  have hdp : dp A J = J := by unfold dp; omega
  obtain ⟨c1, c2, c3⟩ := h.cut (K := 64 * n - pr) (D := dp A J) (by omega)
  have q1 : A / 2 ^ dp A J < 2 ^ pr := by
    rw [Nat.div_lt_iff_lt_mul (Nat.two_pow_pos _), ← Nat.pow_add]
    refine Nat.lt_of_lt_of_le bl_lt (Nat.pow_le_pow_right (by omega) (by omega))
  have hp52 : 2 ^ pr ≤ 2 ^ 52 := Nat.pow_le_pow_right (by omega) p2
  rw [show (2 : Nat) ^ 52 = 4503599627370496 from by decide] at hp52
  obtain ⟨ha, hf, hp⟩ := hC
  rw [c1, c2] at hf hp
  rw [c2, show (if M % 2 ^ (64 * n - pr) = 0 then (0 : Int) else accOf (rup A (dp A J)) ng) = if A % 2 ^ dp A J = 0 then 0 else accOf (rup A (dp A J)) ng from ite_iff c3] at ha
  have hr : r1 A J = A / 2 ^ dp A J + (rup A (dp A J)).toNat := by unfold r1 r0; rw [hl0, Nat.zero_mul, Nat.zero_add]
  have hu : (rup A (dp A J)).toNat ≤ 1 := by cases rup A (dp A J) <;> simp
  have hfa : acc' = fa A J ng := by unfold fa; rw [if_neg (by omega)]; exact ha
  refine ⟨hfa, ?_⟩
  rw [← hr] at hf hp
  by_cases g : r1 A J = 2 ^ pr
  · obtain ⟨g1, g2⟩ := hf g
    by_cases e : pr = 52
    · left
      refine ⟨by omega, ?_, ?_⟩
      · rw [g1, pw63]
      · rw [g, e]
    · right
      have hlt : (2 : Nat) ^ pr < 2 ^ 52 := Nat.pow_lt_pow_right (by omega) (by omega)
      rw [show (2 : Nat) ^ 52 = 4503599627370496 from by decide] at hlt
      refine ⟨by omega, pr + 1, by omega, by omega, by omega, ?_, by omega⟩
      rw [g1, g, Nat.pow_div (by omega) (by omega)]
      congr 1
      omega
  · obtain ⟨g1, g2⟩ := hp g
    right
    refine ⟨by omega, pr, by omega, p1, p2, ?_, by omega⟩
    rw [g1, Nat.mul_div_cancel _ (Nat.two_pow_pos _)]
theorem Mq.least (h : Mq M n ex A J) (he : ex = -1074) (hn : 1 ≤ n) : r1 A J = (if M % 2 ^ (64 * n - 1) = 0 then 0 else 1) ∧ fa A J ng = (if M % 2 ^ (64 * n - 1) = 0 then accOf false ng else accOf true ng) := by
  have hlp := h.lpe
  have hbl := h.hb
  have hl0 : lp A J = 0 := by omega
  have hdp : dp A J = J := by unfold dp; omega
  have hs := bl_spec h.a0
  have hJ : bl A = J := by omega
  obtain ⟨-, -, c3⟩ := h.cut (K := 64 * n - 1) (D := J - 1) (by omega)
  rw [hJ] at hs
  have e2 : 2 ^ J = 2 ^ (J - 1) * 2 := by rw [← Nat.pow_succ]; congr 1; omega
  have hq : A / 2 ^ J = 0 := Nat.div_eq_of_lt hs.1
  have hm : A % 2 ^ J = A := Nat.mod_eq_of_lt hs.1
  have hr : r1 A J = (rup A J).toNat := by unfold r1 r0; rw [hl0, hdp, hq]; omega
  have hm2 : A % 2 ^ (J - 1) = A - 2 ^ (J - 1) := by
    rw [Nat.mod_eq_sub_mod hs.2.1, Nat.mod_eq_of_lt (by omega)]
  have hu : rup A J = decide (¬ M % 2 ^ (64 * n - 1) = 0) := by
    unfold rup
    rw [hq, hm, decide_eq_decide, c3, hm2]
    omega
  have hfa : fa A J ng = accOf (rup A J) ng := by
    unfold fa
    rw [hr, hdp, hm, if_neg (by cases rup A J <;> simp), if_neg h.a0]
  rw [hfa, hr, hu]
  by_cases g : M % 2 ^ (64 * n - 1) = 0
  · rw [if_pos g, if_pos g, decide_eq_false (by simpa using g)]; exact ⟨rfl, rfl⟩
  · rw [if_neg g, if_neg g, decide_eq_true g]; exact ⟨rfl, rfl⟩
theorem Mq.noth (h : Mq M n ex A J) (he : ex < -1074) : r1 A J = 0 ∧ fa A J ng = accOf false ng := by
  have hlp := h.lpe
  have hbl := h.hb
  have hl0 : lp A J = 0 := by omega
  have hdp : dp A J = J := by unfold dp; omega
  have hlt : A < 2 ^ (J - 1) := Nat.lt_of_lt_of_le bl_lt (Nat.pow_le_pow_right (by omega) (by omega))
  have hJ : 1 ≤ J := by have := (bl_spec h.a0).2.2; omega
  have e2 : 2 ^ J = 2 ^ (J - 1) * 2 := by rw [← Nat.pow_succ]; congr 1; omega
  have hq : A / 2 ^ J = 0 := Nat.div_eq_of_lt (by omega)
  have hm : A % 2 ^ J = A := Nat.mod_eq_of_lt (by omega)
  have hu : rup A J = false := by
    unfold rup
    rw [hq, hm]
    exact decide_eq_false (by omega)
  have hr : r1 A J = 0 := by unfold r1 r0; rw [hl0, hdp, hq, hu]; rfl
  refine ⟨hr, ?_⟩
  unfold fa
  rw [hr, hdp, hm, hu, if_neg (by omega), if_neg h.a0]
theorem Mq.of {z x : Int} (hz : z ≠ 0) (hM : M = z.natAbs * 2 ^ (64 * n - bl z.natAbs)) (hl : bl z.natAbs ≤ 64 * n) (hJ : 0 ≤ x + 1074 + J) : Mq M n ((bl z.natAbs : Int) + x) (z.natAbs * 2 ^ (x + 1074 + J).toNat) J := by
  have h0 : z.natAbs ≠ 0 := by omega
  have hb : ∀ k, bl (z.natAbs * 2 ^ k) = bl z.natAbs + k := fun k => by
    unfold bl
    rw [if_neg h0, if_neg (Nat.mul_ne_zero h0 (Nat.ne_of_gt (Nat.two_pow_pos _))), log2_shift _ _ h0]
    omega
  refine ⟨Nat.mul_ne_zero h0 (Nat.ne_of_gt (Nat.two_pow_pos _)), by rw [hb]; omega, (x + 1074 + J).toNat, 64 * n - bl z.natAbs, ?_, by rw [hb]; omega⟩
  rw [hM, Nat.mul_assoc, Nat.mul_assoc, Nat.mul_comm (2 ^ (64 * n - bl z.natAbs))]
theorem Mq.twice {m e : Int} (hm : m ≠ 0) (hM : M = (m * 2).natAbs * 2 ^ (64 * n - bl (m * 2).natAbs)) (hl : bl (m * 2).natAbs ≤ 64 * n) (hJ : 0 ≤ e + 1074 + J) : Mq M n ((bl (m * 2).natAbs : Int) + (e - 1)) (m.natAbs * 2 ^ (e + 1074 + J).toNat) J := by
  have h0 : m.natAbs ≠ 0 := by omega
  have hb : ∀ k, bl (m.natAbs * 2 ^ k) = bl m.natAbs + k := fun k => by
    unfold bl
    rw [if_neg h0, if_neg (Nat.mul_ne_zero h0 (Nat.ne_of_gt (Nat.two_pow_pos _))), log2_shift _ _ h0]
    omega
  have e2 : (m * 2).natAbs = m.natAbs * 2 ^ 1 := by rw [Int.natAbs_mul]; rfl
  have hb1 := hb 1
  rw [← e2] at hb1
  refine ⟨Nat.mul_ne_zero h0 (Nat.ne_of_gt (Nat.two_pow_pos _)), by rw [hb, hb1]; omega, (e + 1074 + J).toNat, 1 + (64 * n - bl (m * 2).natAbs), ?_, by rw [hb]; omega⟩
  rw [hM, e2, Nat.pow_add 2 1]
  generalize 2 ^ (64 * n - bl (m.natAbs * 2 ^ 1)) = x
  generalize 2 ^ (e + 1074 + J).toNat = y
  ac_rfl
end
section
open Go.RowKit
theorem Fl.made (w : World) (v : Int) (pr : Nat) (h : v = (pr : Nat)) : Fl (w.alloc (.cells #[.int .u32 v, .int .u8 0, .int .i8 0, .int .u8 0, .bool false, .slice none 0 0, .int .i32 0] 159)) w.heap.size pr 0 0 false none 0 (fun _ => 0) 0 := by
  subst h
  exact ⟨cell_made _ _ _ 0, cell_made _ _ _ 1, cell_made _ _ _ 2, cell_made _ _ _ 3, cell_made _ _ _ 4, cell_made _ _ _ 5, cell_made _ _ _ 6, fun i => frozen_made _ _ _ i, rfl, (fun h => by obtain ⟨_, e⟩ := h; cases e), Plain.made _ _⟩
def F64R (w : World) (A J : Nat) (ng : Bool) (en : Ending) (w' : World) : Prop :=
  en = .returned (.tuple #[.float .f64 (fw A J ng), .int .i8 (fa A J ng)]) ∧ Turn (fun _ => False) w w'
theorem or_bits (Y : Int) (E m : Nat) (hY : Y = (E : Int) - 1022) (hE : E ≤ 2047) (hm : m < 4503599627370496) :
    (bits .or .u64 9223372036854775808 ((Y - 1 + 1023) * 4503599627370496) = 9223372036854775808 + (E : Int) * 4503599627370496 ∧ bits .or .u64 (9223372036854775808 + (E : Int) * 4503599627370496) (m : Int) = ((wd true (E * 4503599627370496 + m) : Nat) : Int)) ∧
    (bits .or .u64 0 ((Y - 1 + 1023) * 4503599627370496) = (E : Int) * 4503599627370496 ∧ bits .or .u64 ((E : Int) * 4503599627370496) (m : Int) = ((wd false (E * 4503599627370496 + m) : Nat) : Int)) := by
  have e : (Y - 1 + 1023) * 4503599627370496 = ((E * 4503599627370496 : Nat) : Int) := by omega
  obtain ⟨t1, t2⟩ := wd_or true hE hm
  obtain ⟨f1, f2⟩ := wd_or false hE hm
  rw [ite_t] at t1 t2
  rw [ite_f] at f1 f2
  have a1 := u64_or_nat 9223372036854775808 (E * 4503599627370496) (by omega) (by omega)
  have a2 := u64_or_nat (9223372036854775808 + E * 4503599627370496) m (by omega) (by omega)
  have a3 := u64_or_nat 0 (E * 4503599627370496) (by omega) (by omega)
  have a4 := u64_or_nat (0 + E * 4503599627370496) m (by omega) (by omega)
  rw [t1] at a1
  rw [t2] at a2
  rw [f1] at a3
  rw [f2] at a4
  rw [e]
  have c1 : ((9223372036854775808 + E * 4503599627370496 : Nat) : Int) = 9223372036854775808 + (E : Int) * 4503599627370496 := by omega
  have c2 : ((0 + E * 4503599627370496 : Nat) : Int) = (E : Int) * 4503599627370496 := by omega
  rw [c1] at a1 a2
  rw [c2] at a3 a4
  exact ⟨⟨a1, a2⟩, ⟨a3, a4⟩⟩
theorem and_mask52 (v m : Nat) (hv : v < 18446744073709551616) (hm : v / 2048 % 4503599627370496 = m) : bits .and .u64 ((v : Int) / 2048) 4503599627370495 = (m : Int) := by
  have h := u64_and_nat (v / 2048) 4503599627370495 (by omega) (by omega)
  have e : (v / 2048) &&& 4503599627370495 = m := by
    rw [show (4503599627370495 : Nat) = 2 ^ 52 - 1 by decide, Nat.and_two_pow_sub_one_eq_mod, ← hm]
  rw [e, Int.natCast_ediv] at h
  exact h
theorem F64R.of {w w3 : World} {A J R nq : Nat} {ng b : Bool} {acc' : Int} (hn : ng = b) (hR : R = fw A J b) (ha : acc' = fa A J ng) (hT : Turn (fun _ => False) w w3) : F64R w A J ng (.returned (.tuple #[.float .f64 R, .int .i8 acc'])) (w3.drewN nq) := by
  subst hn; subst hR; subst ha
  exact ⟨rfl, hT.drewN nq⟩
theorem F64R.at {w w3 : World} {A J R : Nat} {b : Bool} {acc' : Int} (hR : R = fw A J b) (ha : acc' = fa A J b) (hT : Turn (fun _ => False) w w3) : F64R w A J b (.returned (.tuple #[.float .f64 R, .int .i8 acc'])) w3 := by
  subst hR; subst ha
  exact ⟨rfl, hT⟩
theorem inf_words {A J : Nat} (h : 9218868437227405312 ≤ r1 A J) : (18442240474082181120 = fw A J true ∧ -1 = fa A J true) ∧ (9218868437227405312 = fw A J false ∧ 1 = fa A J false) := by
  unfold fw fa
  rw [Nat.min_eq_right h, if_pos h, if_pos h, wd_t, wd_f]
  exact ⟨⟨by omega, acc_tt.symm⟩, ⟨rfl, acc_tf.symm⟩⟩
theorem Cut.le {M K pr s : Nat} {ng : Bool} {ex acc' ex' : Int} {v : Nat} (h : Cut M K pr s ng ex acc' ex' v) : ex ≤ ex' ∧ ex' ≤ ex + 1 := by
  by_cases g : M / 2 ^ K + (rup M K).toNat = 2 ^ pr
  · have := (h.full g).2; omega
  · have := (h.part g).2; omega
variable {p P b c n A J : Nat} {acc ex : Int} {ng : Bool} {g : Nat → Nat}
set_option maxRecDepth 100000 in
set_option maxHeartbeats 4000000 in
theorem f64N_fin (w : World) (h : Fl w p P acc 1 ng (some (b, c)) n g ex) (n1 : 1 ≤ n) (hn : n ≤ 10000) (ht : 9223372036854775808 ≤ g (n - 1)) (hP : 64 ≤ P) (he : -1021 ≤ ex ∧ ex ≤ 100000) (hq : Mq (vl g n) n ex A J) (hov : r1 A J < 9218868437227405312) :
    Calls Tryz.prog 109 #[.pointer (some ⟨p, 0, none⟩)] w (F64R w A J ng) := by
  have hpl := h.lt
  have hbl := h.nt.2.2.2.2.lt
  have m2 := Fl.made w 53 53 rfl
  have s1 := size_alloc w (.cells #[.int .u32 53, .int .u8 0, .int .i8 0, .int .u8 0, .bool false, .slice none 0 0, .int .i32 0] 159)
  have t2 := (Turn.refl (fun _ => False) w).alloc (.cells #[.int .u32 53, .int .u8 0, .int .i8 0, .int .u8 0, .bool false, .slice none 0 0, .int .i32 0] 159)
  have h2 := h.still t2
  have hS := Set_any (rp := w.heap.size) (p := p) _ m2 h2 (by omega) (by omega) n1 hn ht (by omega) (by omega) hP (by omega)
  have c6 := h.c6
  have c3 := h.c3
  have c4 := h.c4
  have x1 : IntKind.i32.wrap (ex - 1) = ex - 1 := IntWalk.i32_in _ (by omega)
  have x2 : ¬ ex - 1 < -1022 := by omega
  replace m2 := Lib.hid m2
  replace h2 := Lib.hid h2
  replace t2 := Lib.hid t2
  replace hq := Lib.hid hq
  replace s1 := Lib.hid s1
  replace hov := Lib.hid hov
  have hbl2 := Lib.hid hbl
  clear h hbl ht
  go_enter Tryz.func109, Tryz.ntmps109
  have fb := from_bits
  go_wp2_with (first
    | (go_at_call 149; ((with_reducible refine hM.mono ?_)); rintro en w4 ⟨rfl, rfl⟩)
    | (go_at_call 148
       ((with_reducible refine hS.mono ?_))
       rintro en w3 ⟨rfl, rb, rc, acc', Y, g', k1, k2, k3⟩
       obtain ⟨u1, u2, u3⟩ := hq.out.nor he.1 (by omega) k2
       have u4 : Y ≤ 1024 := by
         rcases (show 1024 < Y ∨ Y ≤ 1024 by omega) with u | u
         · have := u1 u; have := hov.out; omega
         · exact u
       obtain ⟨-, u5, E, m, u6, u7, u8, u9⟩ := u3 u4
       have h3 := (h2.out.turn k3 (by omega) (by rintro k ⟨c', e⟩ e2; injection e with e; injection e with e e'; have := hbl2.out; omega))
       have c43 := h3.c4
       have r6 := k1.c6
       have r3 := k1.c3
       have r2 := k1.c2
       have r5 := k1.c5
       simp only [nv] at r5
       have hM := msb64_any rb rc 1 g' w3 (k1.nt.2.2.2.1.mono k1.nt.1) (by omega) (by omega)
       have y1 : IntKind.i32.wrap (Y - 1) = Y - 1 := IntWalk.i32_in _ (by omega)
       have y2 : ¬ Y - 1 < -1022 := by omega
       have y3 : ¬ 1023 < Y - 1 := by omega
       have hv := (k1.nt.2.2.2.1 0 (by have := k1.nt.1; omega)).2.2
       obtain ⟨⟨o1, o2⟩, ⟨o3, o4⟩⟩ := or_bits Y E m u6 u9 (by omega)
       have hmk := and_mask52 (g' 0) m hv u7
       have hfw : ∀ b, fw A J b = wd b (E * 4503599627370496 + m) := fun b => by unfold fw; rw [Nat.min_eq_left (by omega), u8]
       have hft := hfw true
       have hff := hfw false
       obtain ⟨R1, hR1⟩ : ∃ R1, R1 = fw A J true := ⟨_, rfl⟩
       obtain ⟨R2, hR2⟩ : ∃ R2, R2 = fw A J false := ⟨_, rfl⟩
       rw [← hft, ← hR1] at o2
       rw [← hff, ← hR2] at o4
       replace hR1 := Lib.hid hR1
       replace hR2 := Lib.hid hR2
       have hT := Lib.hid (t2.out.trans k3 fun k hk e => by omega)
       replace u5 := Lib.hid u5
       replace u6 := Lib.hid u6
       clear u1 u2 u3 k1 k2 k3 h3 u7 u8 hfw hft hff))
  all_goals (
    generalize 9223372036854775808 + (E : Int) * 4503599627370496 = X1 at *
    generalize (E : Int) * 4503599627370496 = X2 at *
    generalize (Y - 1 + 1023) * 4503599627370496 = B at *
    generalize (9223372036854775808 : Int) = S at *
    clear hmk x1 x2 hM y1 y2 y3)
  all_goals go_region
  all_goals go_wp2_with fail
  all_goals go_ret2
  · exact F64R.of (b := true) ‹_› hR1.out u5.out hT.out
  · exact F64R.of (b := false) ‹_› hR2.out u5.out hT.out
set_option maxRecDepth 100000 in
set_option maxHeartbeats 4000000 in
theorem f64N_inf (w : World) (h : Fl w p P acc 1 ng (some (b, c)) n g ex) (n1 : 1 ≤ n) (hn : n ≤ 10000) (ht : 9223372036854775808 ≤ g (n - 1)) (hP : 64 ≤ P) (he : -1021 ≤ ex ∧ ex ≤ 100000) (hq : Mq (vl g n) n ex A J) (hov : 9218868437227405312 ≤ r1 A J) :
    Calls Tryz.prog 109 #[.pointer (some ⟨p, 0, none⟩)] w (F64R w A J ng) := by
  have hpl := h.lt
  have hbl := h.nt.2.2.2.2.lt
  have m2 := Fl.made w 53 53 rfl
  have s1 := size_alloc w (.cells #[.int .u32 53, .int .u8 0, .int .i8 0, .int .u8 0, .bool false, .slice none 0 0, .int .i32 0] 159)
  have t2 := (Turn.refl (fun _ => False) w).alloc (.cells #[.int .u32 53, .int .u8 0, .int .i8 0, .int .u8 0, .bool false, .slice none 0 0, .int .i32 0] 159)
  have h2 := h.still t2
  have hS := Set_any (rp := w.heap.size) (p := p) _ m2 h2 (by omega) (by omega) n1 hn ht (by omega) (by omega) hP (by omega)
  have c6 := h.c6
  have c3 := h.c3
  have c4 := h.c4
  have x1 : IntKind.i32.wrap (ex - 1) = ex - 1 := IntWalk.i32_in _ (by omega)
  have x2 : ¬ ex - 1 < -1022 := by omega
  replace m2 := Lib.hid m2
  replace h2 := Lib.hid h2
  replace t2 := Lib.hid t2
  replace hq := Lib.hid hq
  replace s1 := Lib.hid s1
  replace hov := Lib.hid hov
  have hbl2 := Lib.hid hbl
  clear h hbl ht
  go_enter Tryz.func109, Tryz.ntmps109
  have fb := from_bits
  go_wp2_with (first
    | (go_at_call 148
       ((with_reducible refine hS.mono ?_))
       rintro en w3 ⟨rfl, rb, rc, acc', Y, g', k1, k2, k3⟩
       obtain ⟨u1, u2, u3⟩ := hq.out.nor he.1 (by omega) k2
       have u4 : 1024 < Y := by
         rcases (show 1024 < Y ∨ Y ≤ 1024 by omega) with u | u
         · exact u
         · have := (u3 u).1; have := hov.out; omega
       have u5 := k2.le
       have h3 := (h2.out.turn k3 (by omega) (by rintro k ⟨c', e⟩ e2; injection e with e; injection e with e e'; have := hbl2.out; omega))
       have c43 := h3.c4
       have r6 := k1.c6
       have r3 := k1.c3
       have y1 : IntKind.i32.wrap (Y - 1) = Y - 1 := IntWalk.i32_in _ (by omega)
       have y3 : 1023 < Y - 1 := by omega
       have hT := Lib.hid (t2.out.trans k3 fun k hk e => by omega)
       have hI1 := Inf_pos w3
       have hI2 := Inf_neg w3
       clear u1 u2 u3 k1 k2 k3 h3)
    | (go_at_call 56; ((with_reducible refine hI1.mono ?_)); rintro en w4 ⟨rfl, rfl⟩)
    | (go_at_call 56; ((with_reducible refine hI2.mono ?_)); rintro en w4 ⟨rfl, rfl⟩))
  all_goals go_ret2
  · have hb : ng = true := ‹_›
    rw [hb]
    exact F64R.at (inf_words hov.out).1.1 (inf_words hov.out).1.2 hT.out
  · have hb : ng = false := ‹_›
    rw [hb]
    exact F64R.at (inf_words hov.out).2.1 (inf_words hov.out).2.2 hT.out
end
end Go.Proofs.YtllapbkoildfiaaGreatFmt
