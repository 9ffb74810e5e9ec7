/- Walks: the reference's Cmp and Normal, Normal, num, alive; Cmp and Same in whole numbers. -/
import Derived.Test.YtbmgjbpcijbocaaPts
import Derived.Laws.StructEq
namespace Go.Proofs.Ytbmgjbpcijbocaa
open Go.RowKit

theorem build25 (a b : Int) (w : World) : (Instr.build 25 #[(0, .int .i64 a), (1, .int .i64 b)]).run Try.prog w = .ok (.agg #[.int .i64 a, .int .i64 b]) w := run_build w 25 _ _ (by kernel_rfl)
theorem build25x (a : Int) (w : World) : (Instr.build 25 #[(0, .int .i64 a)]).run Try.prog w = .ok (.agg #[.int .i64 a, .int .i64 0]) w := run_build w 25 _ _ (by kernel_rfl)
theorem build25n (w : World) : (Instr.build 25 #[]).run Try.prog w = .ok (.agg #[.int .i64 0, .int .i64 0]) w := run_build w 25 _ _ (by kernel_rfl)

/-- The order of two points, in whole numbers. -/
def ordI (ax ay bx bY : Int) : Int := if cmpI (rankF ax) (rankF bx) = 0 then cmpI (rankF ay) (rankF bY) else cmpI (rankF ax) (rankF bx)

/-- An int's bounds. -/
def In64 (x : Int) : Prop := -9223372036854775808 ≤ x ∧ x ≤ 9223372036854775807

theorem ordW_eq (ax ay bx bY : Int) (h1 : In64 ax) (h2 : In64 ay) (h3 : In64 bx) (h4 : In64 bY) (f1 : fin ax = true) (f2 : fin ay = true) (f3 : fin bx = true) (f4 : fin bY = true) : ordW ax ay bx bY = ordI ax ay bx bY := by
  unfold ordW ordI
  rw [wayF_wd ax bx h1.1 h1.2 h3.1 h3.2 f1 f3, wayF_wd ay bY h2.1 h2.2 h4.1 h4.2 f2 f4]

theorem eqW_eq (a b : Int) (h1 : In64 a) (h2 : In64 b) (f1 : fin a = true) (f2 : fin b = true) : eqW (wd a) (wd b) = decide (cmpI (rankF a) (rankF b) = 0) := by
  unfold eqW
  rw [order_wd a b h1.1 h1.2 h2.1 h2.2 f1 f2, compare_int]
  unfold cmpI
  by_cases h : rankF a < rankF b
  · rw [if_pos h, if_pos h]; rfl
  · rw [if_neg h, if_neg h]
    by_cases e : rankF a = rankF b
    · rw [if_pos e, if_neg (by omega)]; rfl
    · rw [if_neg e, if_pos (by omega)]; rfl

theorem same_eq (ax ay bx bY : Int) (h1 : In64 ax) (h2 : In64 ay) (h3 : In64 bx) (h4 : In64 bY) (f1 : fin ax = true) (f2 : fin ay = true) (f3 : fin bx = true) (f4 : fin bY = true) : (eqW (wd ax) (wd bx) && eqW (wd ay) (wd bY)) = decide (ordI ax ay bx bY = 0) := by
  rw [eqW_eq ax bx h1 h3 f1 f3, eqW_eq ay bY h2 h4 f2 f4]
  unfold ordI
  by_cases h : cmpI (rankF ax) (rankF bx) = 0
  · rw [if_pos h, decide_eq_true h, Bool.true_and]
  · rw [if_neg h, decide_eq_false h, Bool.false_and]

theorem num_any (a : Int) (w : World) : Calls Try.prog 12 #[.int .i64 a] w fun e w' => e = .returned (.int .i64 a) ∧ w = w' := by
  go_enter Try.func12, Try.ntmps12
  go_wp2
  go_ret
  exact ⟨rfl, rfl⟩

set_option maxHeartbeats 800000 in
theorem refcmp_core (ax ay bx bY A B C D : Int) (w : World) (hA : ∀ w, Calls Try.prog 27 #[.int .i64 ax] w fun e w' => e = .returned (.int .i64 A) ∧ w = w') (hB : ∀ w, Calls Try.prog 27 #[.int .i64 ay] w fun e w' => e = .returned (.int .i64 B) ∧ w = w')
    (hC : ∀ w, Calls Try.prog 27 #[.int .i64 bx] w fun e w' => e = .returned (.int .i64 C) ∧ w = w') (hD : ∀ w, Calls Try.prog 27 #[.int .i64 bY] w fun e w' => e = .returned (.int .i64 D) ∧ w = w') :
    Calls Try.prog 15 #[.agg #[.int .i64 ax, .int .i64 ay], .agg #[.int .i64 bx, .int .i64 bY]] w (Ends w (.int .i64 (if cmpI A C = 0 then cmpI B D else cmpI A C))) := by
  have b0 := below_two w (.cells #[.int .i64 ax, .int .i64 ay] 25) (.cells #[.int .i64 bx, .int .i64 bY] 25)
  have e1 : ∀ x y : Int, x < y → cmpI x y = -1 := fun x y h => by unfold cmpI; rw [if_pos h]
  have e2 : ∀ x y : Int, y < x → cmpI x y = 1 := fun x y h => by unfold cmpI; rw [if_neg (by omega), if_pos h]
  have e3 : ∀ x : Int, cmpI x x = 0 := fun x => by unfold cmpI; rw [if_neg (by omega), if_neg (by omega)]
  rcases Int.lt_trichotomy A C with h | rfl | h
  · have g1 : (A == C) = false := by simp; omega
    rw [e1 A C h]
    clear e1 e2 e3
    go_enter Try.func15, Try.ntmps15
    go_wp2_with (first | (go_at_call 27; (with_reducible refine (hA _).mono ?_); rintro e w' ⟨rfl, rfl⟩) | (go_at_call 27; (with_reducible refine (hC _).mono ?_); rintro e w' ⟨rfl, rfl⟩))
    go_ret
    exact ⟨rfl, b0⟩
  · have g1 : (A == A) = true := by simp
    rw [e3 A, if_pos rfl]
    rcases Int.lt_trichotomy B D with h | rfl | h
    · rw [e1 B D h]
      clear e1 e2 e3
      go_enter Try.func15, Try.ntmps15
      go_wp2_with (first | (go_at_call 27; (with_reducible refine (hA _).mono ?_); rintro e w' ⟨rfl, rfl⟩) | (go_at_call 27; (with_reducible refine (hC _).mono ?_); rintro e w' ⟨rfl, rfl⟩) | (go_at_call 27; (with_reducible refine (hB _).mono ?_); rintro e w' ⟨rfl, rfl⟩) | (go_at_call 27; (with_reducible refine (hD _).mono ?_); rintro e w' ⟨rfl, rfl⟩))
      go_ret
      exact ⟨rfl, b0⟩
    · rw [e3 B]
      clear e1 e2 e3
      go_enter Try.func15, Try.ntmps15
      go_wp2_with (first | (go_at_call 27; (with_reducible refine (hA _).mono ?_); rintro e w' ⟨rfl, rfl⟩) | (go_at_call 27; (with_reducible refine (hC _).mono ?_); rintro e w' ⟨rfl, rfl⟩) | (go_at_call 27; (with_reducible refine (hB _).mono ?_); rintro e w' ⟨rfl, rfl⟩) | (go_at_call 27; (with_reducible refine (hD _).mono ?_); rintro e w' ⟨rfl, rfl⟩))
      go_ret
      exact ⟨rfl, b0⟩
    · rw [e2 B D h]
      clear e1 e2 e3
      go_enter Try.func15, Try.ntmps15
      go_wp2_with (first | (go_at_call 27; (with_reducible refine (hA _).mono ?_); rintro e w' ⟨rfl, rfl⟩) | (go_at_call 27; (with_reducible refine (hC _).mono ?_); rintro e w' ⟨rfl, rfl⟩) | (go_at_call 27; (with_reducible refine (hB _).mono ?_); rintro e w' ⟨rfl, rfl⟩) | (go_at_call 27; (with_reducible refine (hD _).mono ?_); rintro e w' ⟨rfl, rfl⟩))
      go_ret
      exact ⟨rfl, b0⟩
  · have g1 : (A == C) = false := by simp; omega
    rw [e2 A C h]
    clear e1 e2 e3
    go_enter Try.func15, Try.ntmps15
    go_wp2_with (first | (go_at_call 27; (with_reducible refine (hA _).mono ?_); rintro e w' ⟨rfl, rfl⟩) | (go_at_call 27; (with_reducible refine (hC _).mono ?_); rintro e w' ⟨rfl, rfl⟩))
    go_ret
    exact ⟨rfl, b0⟩

theorem refcmp_any (ax ay bx bY : Int) (w : World) (h1 : In64 ax) (h2 : In64 ay) (h3 : In64 bx) (h4 : In64 bY) : Calls Try.prog 15 #[.agg #[.int .i64 ax, .int .i64 ay], .agg #[.int .i64 bx, .int .i64 bY]] w (Ends w (.int .i64 (ordI ax ay bx bY))) := by
  unfold ordI
  exact refcmp_core ax ay bx bY _ _ _ _ w (fun w => rank_any _ w h1.1) (fun w => rank_any _ w h2.1) (fun w => rank_any _ w h3.1) (fun w => rank_any _ w h4.1)

theorem alive_any (w : World) : Calls Try.prog 8 #[] w (Ends w (.bool true)) := by
  have hc := fun w => cmp_yes 1 0 2 0 w (by decide)
  rw [show ordW 1 0 2 0 = -1 by decide] at hc
  have ht := fun w => tame_any' 3931642474694443008 w
  rw [show tameR (Pf.rg (wd 3931642474694443008)) = true by decide] at ht
  have b1 := build25x
  go_enter Try.func8, Try.ntmps8
  go_wp2_with (first | (go_at_call 11; refine (hc _).mono ?_; rintro e w1 ⟨rfl, hb1⟩) | (go_at_call 9; refine (ht _).mono ?_; rintro e w' ⟨rfl, rfl⟩) | (go_at_call 12; refine (num_any _ _).mono ?_; rintro e w' ⟨rfl, rfl⟩))
  go_ret
  exact ⟨rfl, hb1⟩
end Go.Proofs.Ytbmgjbpcijbocaa
