/- The law PointLaws is proved: the order of points goes on, turns with its arguments, takes -0 for 0, and rises from bits to the next bits. No condition. -/
import Derived.Test.YtbmgjbpcijbocaaRows
import Derived.Test.YtbmgjbpcijbocaaRef
import Derived.WalkKit
import Derived.ProofKit
import Derived.OpenShut
import Derived.Lib.SmallJoins
namespace Go.Proofs.Ytbmgjbpcijbocaa.pointLaws
open Go.ChangeShapes Go.WideShapes Go.ChangeAt Go.RowKit Go.Joins

theorem own : ownKnob Try.prog.godebug = none := by kernel_rfl
theorem cells25 : Try.prog.cellsOf 25 = 2 := by kernel_rfl

theorem bounds {b : Int} (h : (Lit.int .i64 b).wf = true) : In64 b := by
  simp [Lit.wf, IntKind.min, IntKind.max, IntKind.bits, IntKind.signed] at h
  exact ⟨by omega, by omega⟩

/-- The boxes of three points, and that nothing of what was there has turned. -/
def Boxed3 (w : World) (p q r s t u : Value) (w' : World) : Prop :=
  w'.cell? ⟨w.heap.size, 0, none⟩ = some p ∧ w'.cell? ⟨w.heap.size, 1, none⟩ = some q ∧ w'.cell? ⟨w.heap.size + 1, 0, none⟩ = some r ∧ w'.cell? ⟨w.heap.size + 1, 1, none⟩ = some s ∧ w'.cell? ⟨w.heap.size + 1 + 1, 0, none⟩ = some t ∧ w'.cell? ⟨w.heap.size + 1 + 1, 1, none⟩ = some u ∧ w.heap.size + 3 ≤ w'.heap.size ∧ Below w.heap.size w w'

theorem Boxed3.start (w : World) (p q r s t u : Value) (i j k : TypeId) : Boxed3 w p q r s t u (((w.alloc (.cells #[p, q] i)).alloc (.cells #[r, s] j)).alloc (.cells #[t, u] k)) := by
  refine ⟨?_, ?_, ?_, ?_, ?_, ?_, ?_, (below_two w _ _).alloc (by simp; omega) _⟩ <;> go_simp

theorem Boxed3.step {w W w' : World} {p q r s t u : Value} (h : Boxed3 w p q r s t u W) (hb : Below W.heap.size W w') : Boxed3 w p q r s t u w' := by
  obtain ⟨h1, h2, h3, h4, h5, h6, h7, h8⟩ := h
  have c := (bcell hb).1
  exact ⟨(c _ _ (by omega)).trans h1, (c _ _ (by omega)).trans h2, (c _ _ (by omega)).trans h3, (c _ _ (by omega)).trans h4, (c _ _ (by omega)).trans h5, (c _ _ (by omega)).trans h6, Nat.le_trans h7 hb.size, h8.trans (hb.mono (by omega))⟩

theorem Boxed3.below {w W : World} {p q r s t u : Value} (h : Boxed3 w p q r s t u W) : Below w.heap.size w W := h.2.2.2.2.2.2.2

/-- Cmp of two points, given its answer. -/
abbrev Cmps (ax ay bx bY c e : Int) : Prop := ∀ w, Calls Try.prog 11 #[.agg #[.int .i64 ax, .int .i64 ay], .agg #[.int .i64 bx, .int .i64 bY]] w (Ends w (.tuple #[.int .i64 c, .int .i64 e]))

-- CASES
set_option maxHeartbeats 4000000 in
set_option maxRecDepth 100000 in
theorem first_none (ax ay bx bY cx cy n x y z b e1 e2 e3 e4 : Int) (w : World) (he : e1 ≠ 0)
    (hab : Cmps ax ay bx bY x e1) (hbc : Cmps bx bY cx cy y e2) (hac : Cmps ax ay cx cy z e3) (hba : Cmps bx bY ax ay b e4)
    (hp : 0 ≤ n → n < 9214364837600034816 → Cmps n (-9223372036854775808) n 0 0 0)
    (hq : 0 ≤ n → n < 9214364837600034816 → Cmps n (bits .and .i64 ax 65535) (n + 1) (-9223372036854775808) (-1) 0)
    (hr : 0 ≤ n → n < 9214364837600034816 → Cmps (bits .or .i64 (n + 1) (-9223372036854775808)) 0 (bits .or .i64 n (-9223372036854775808)) 0 (-1) 0) :
    Calls Try.prog 4 #[.agg #[.int .i64 ax, .int .i64 ay], .agg #[.int .i64 bx, .int .i64 bY], .agg #[.int .i64 cx, .int .i64 cy], .int .i64 n] w (Ends w (.bool true)) := by
  have S := Boxed3.start w (.int .i64 ax) (.int .i64 ay) (.int .i64 bx) (.int .i64 bY) (.int .i64 cx) (.int .i64 cy) 25 25 25
  have ha := alive_any
  have b1 := build25
  have h1 : (e1 == 0) = false := by simpa using he
  clear he
  by_cases hn : n < 0
  · clear hp hq hr
    go_enter Try.func4, Try.ntmps4
    go_wp2_with (first
        | (go_at_call 8; refine (ha _).mono ?_; rintro e w1 ⟨rfl, hb⟩; (have S1 := S.step hb); clear S hb; have S := S1; obtain ⟨c1, c2, c3, c4, c5, c6, -⟩ := S1)
        | (go_at_call 11; (with_reducible refine (hab _).mono ?_); rintro e w2 ⟨rfl, hb⟩; (have S1 := S.step hb); clear S hb c1 c2 c3 c4 c5 c6; have S := S1; obtain ⟨c1, c2, c3, c4, c5, c6, -⟩ := S1)
        | (go_at_call 11; (with_reducible refine (hbc _).mono ?_); rintro e w2 ⟨rfl, hb⟩; (have S1 := S.step hb); clear S hb c1 c2 c3 c4 c5 c6; have S := S1; obtain ⟨c1, c2, c3, c4, c5, c6, -⟩ := S1)
        | (go_at_call 11; (with_reducible refine (hac _).mono ?_); rintro e w2 ⟨rfl, hb⟩; (have S1 := S.step hb); clear S hb c1 c2 c3 c4 c5 c6; have S := S1; obtain ⟨c1, c2, c3, c4, c5, c6, -⟩ := S1)
        | (go_at_call 11; (with_reducible refine (hba _).mono ?_); rintro e w2 ⟨rfl, hb⟩; (have S1 := S.step hb); clear S hb c1 c2 c3 c4 c5 c6; have S := S1; obtain ⟨c1, c2, c3, c4, c5, c6, -⟩ := S1)
        | (go_at_call 12; refine (num_any _ _).mono ?_; rintro e w' ⟨rfl, rfl⟩))
    go_ret
    exact ⟨rfl, S.below⟩
  · by_cases hm : n < 9214364837600034816
    · have hp' := hp (by omega) hm
      have hq' := hq (by omega) hm
      have hr' := hr (by omega) hm
      clear hp hq hr
      go_enter Try.func4, Try.ntmps4
      go_wp2_with (first
        | (go_at_call 8; refine (ha _).mono ?_; rintro e w1 ⟨rfl, hb⟩; (have S1 := S.step hb); clear S hb; have S := S1; obtain ⟨c1, c2, c3, c4, c5, c6, -⟩ := S1)
        | (go_at_call 11; (with_reducible refine (hab _).mono ?_); rintro e w2 ⟨rfl, hb⟩; (have S1 := S.step hb); clear S hb c1 c2 c3 c4 c5 c6; have S := S1; obtain ⟨c1, c2, c3, c4, c5, c6, -⟩ := S1)
        | (go_at_call 11; (with_reducible refine (hbc _).mono ?_); rintro e w2 ⟨rfl, hb⟩; (have S1 := S.step hb); clear S hb c1 c2 c3 c4 c5 c6; have S := S1; obtain ⟨c1, c2, c3, c4, c5, c6, -⟩ := S1)
        | (go_at_call 11; (with_reducible refine (hac _).mono ?_); rintro e w2 ⟨rfl, hb⟩; (have S1 := S.step hb); clear S hb c1 c2 c3 c4 c5 c6; have S := S1; obtain ⟨c1, c2, c3, c4, c5, c6, -⟩ := S1)
        | (go_at_call 11; (with_reducible refine (hba _).mono ?_); rintro e w2 ⟨rfl, hb⟩; (have S1 := S.step hb); clear S hb c1 c2 c3 c4 c5 c6; have S := S1; obtain ⟨c1, c2, c3, c4, c5, c6, -⟩ := S1)
        | (go_at_call 11; (with_reducible refine (hp' _).mono ?_); rintro e w2 ⟨rfl, hb⟩; (have S1 := S.step hb); clear S hb c1 c2 c3 c4 c5 c6; have S := S1; obtain ⟨c1, c2, c3, c4, c5, c6, -⟩ := S1)
        | (go_at_call 11; (with_reducible refine (hq' _).mono ?_); rintro e w2 ⟨rfl, hb⟩; (have S1 := S.step hb); clear S hb c1 c2 c3 c4 c5 c6; have S := S1; obtain ⟨c1, c2, c3, c4, c5, c6, -⟩ := S1)
        | (go_at_call 11; (with_reducible refine (hr' _).mono ?_); rintro e w2 ⟨rfl, hb⟩; (have S1 := S.step hb); clear S hb c1 c2 c3 c4 c5 c6; have S := S1; obtain ⟨c1, c2, c3, c4, c5, c6, -⟩ := S1)
        | (go_at_call 12; refine (num_any _ _).mono ?_; rintro e w' ⟨rfl, rfl⟩))
      go_ret
      exact ⟨rfl, S.below⟩
    · clear hp hq hr
      go_enter Try.func4, Try.ntmps4
      go_wp2_with (first
        | (go_at_call 8; refine (ha _).mono ?_; rintro e w1 ⟨rfl, hb⟩; (have S1 := S.step hb); clear S hb; have S := S1; obtain ⟨c1, c2, c3, c4, c5, c6, -⟩ := S1)
        | (go_at_call 11; (with_reducible refine (hab _).mono ?_); rintro e w2 ⟨rfl, hb⟩; (have S1 := S.step hb); clear S hb c1 c2 c3 c4 c5 c6; have S := S1; obtain ⟨c1, c2, c3, c4, c5, c6, -⟩ := S1)
        | (go_at_call 11; (with_reducible refine (hbc _).mono ?_); rintro e w2 ⟨rfl, hb⟩; (have S1 := S.step hb); clear S hb c1 c2 c3 c4 c5 c6; have S := S1; obtain ⟨c1, c2, c3, c4, c5, c6, -⟩ := S1)
        | (go_at_call 11; (with_reducible refine (hac _).mono ?_); rintro e w2 ⟨rfl, hb⟩; (have S1 := S.step hb); clear S hb c1 c2 c3 c4 c5 c6; have S := S1; obtain ⟨c1, c2, c3, c4, c5, c6, -⟩ := S1)
        | (go_at_call 11; (with_reducible refine (hba _).mono ?_); rintro e w2 ⟨rfl, hb⟩; (have S1 := S.step hb); clear S hb c1 c2 c3 c4 c5 c6; have S := S1; obtain ⟨c1, c2, c3, c4, c5, c6, -⟩ := S1)
        | (go_at_call 12; refine (num_any _ _).mono ?_; rintro e w' ⟨rfl, rfl⟩))
      go_ret
      exact ⟨rfl, S.below⟩

set_option maxHeartbeats 4000000 in
set_option maxRecDepth 100000 in
theorem second_none (ax ay bx bY cx cy n x y z b e2 e3 e4 : Int) (w : World) (he : e2 ≠ 0)
    (hab : Cmps ax ay bx bY x 0) (hbc : Cmps bx bY cx cy y e2) (hac : Cmps ax ay cx cy z e3) (hba : Cmps bx bY ax ay b e4)
    (hp : 0 ≤ n → n < 9214364837600034816 → Cmps n (-9223372036854775808) n 0 0 0)
    (hq : 0 ≤ n → n < 9214364837600034816 → Cmps n (bits .and .i64 ax 65535) (n + 1) (-9223372036854775808) (-1) 0)
    (hr : 0 ≤ n → n < 9214364837600034816 → Cmps (bits .or .i64 (n + 1) (-9223372036854775808)) 0 (bits .or .i64 n (-9223372036854775808)) 0 (-1) 0) :
    Calls Try.prog 4 #[.agg #[.int .i64 ax, .int .i64 ay], .agg #[.int .i64 bx, .int .i64 bY], .agg #[.int .i64 cx, .int .i64 cy], .int .i64 n] w (Ends w (.bool true)) := by
  have S := Boxed3.start w (.int .i64 ax) (.int .i64 ay) (.int .i64 bx) (.int .i64 bY) (.int .i64 cx) (.int .i64 cy) 25 25 25
  have ha := alive_any
  have b1 := build25
  have h1 : (e2 == 0) = false := by simpa using he
  clear he
  by_cases hn : n < 0
  · clear hp hq hr
    go_enter Try.func4, Try.ntmps4
    go_wp2_with (first
        | (go_at_call 8; refine (ha _).mono ?_; rintro e w1 ⟨rfl, hb⟩; (have S1 := S.step hb); clear S hb; have S := S1; obtain ⟨c1, c2, c3, c4, c5, c6, -⟩ := S1)
        | (go_at_call 11; (with_reducible refine (hab _).mono ?_); rintro e w2 ⟨rfl, hb⟩; (have S1 := S.step hb); clear S hb c1 c2 c3 c4 c5 c6; have S := S1; obtain ⟨c1, c2, c3, c4, c5, c6, -⟩ := S1)
        | (go_at_call 11; (with_reducible refine (hbc _).mono ?_); rintro e w2 ⟨rfl, hb⟩; (have S1 := S.step hb); clear S hb c1 c2 c3 c4 c5 c6; have S := S1; obtain ⟨c1, c2, c3, c4, c5, c6, -⟩ := S1)
        | (go_at_call 11; (with_reducible refine (hac _).mono ?_); rintro e w2 ⟨rfl, hb⟩; (have S1 := S.step hb); clear S hb c1 c2 c3 c4 c5 c6; have S := S1; obtain ⟨c1, c2, c3, c4, c5, c6, -⟩ := S1)
        | (go_at_call 11; (with_reducible refine (hba _).mono ?_); rintro e w2 ⟨rfl, hb⟩; (have S1 := S.step hb); clear S hb c1 c2 c3 c4 c5 c6; have S := S1; obtain ⟨c1, c2, c3, c4, c5, c6, -⟩ := S1)
        | (go_at_call 12; refine (num_any _ _).mono ?_; rintro e w' ⟨rfl, rfl⟩))
    go_ret
    exact ⟨rfl, S.below⟩
  · by_cases hm : n < 9214364837600034816
    · have hp' := hp (by omega) hm
      have hq' := hq (by omega) hm
      have hr' := hr (by omega) hm
      clear hp hq hr
      go_enter Try.func4, Try.ntmps4
      go_wp2_with (first
        | (go_at_call 8; refine (ha _).mono ?_; rintro e w1 ⟨rfl, hb⟩; (have S1 := S.step hb); clear S hb; have S := S1; obtain ⟨c1, c2, c3, c4, c5, c6, -⟩ := S1)
        | (go_at_call 11; (with_reducible refine (hab _).mono ?_); rintro e w2 ⟨rfl, hb⟩; (have S1 := S.step hb); clear S hb c1 c2 c3 c4 c5 c6; have S := S1; obtain ⟨c1, c2, c3, c4, c5, c6, -⟩ := S1)
        | (go_at_call 11; (with_reducible refine (hbc _).mono ?_); rintro e w2 ⟨rfl, hb⟩; (have S1 := S.step hb); clear S hb c1 c2 c3 c4 c5 c6; have S := S1; obtain ⟨c1, c2, c3, c4, c5, c6, -⟩ := S1)
        | (go_at_call 11; (with_reducible refine (hac _).mono ?_); rintro e w2 ⟨rfl, hb⟩; (have S1 := S.step hb); clear S hb c1 c2 c3 c4 c5 c6; have S := S1; obtain ⟨c1, c2, c3, c4, c5, c6, -⟩ := S1)
        | (go_at_call 11; (with_reducible refine (hba _).mono ?_); rintro e w2 ⟨rfl, hb⟩; (have S1 := S.step hb); clear S hb c1 c2 c3 c4 c5 c6; have S := S1; obtain ⟨c1, c2, c3, c4, c5, c6, -⟩ := S1)
        | (go_at_call 11; (with_reducible refine (hp' _).mono ?_); rintro e w2 ⟨rfl, hb⟩; (have S1 := S.step hb); clear S hb c1 c2 c3 c4 c5 c6; have S := S1; obtain ⟨c1, c2, c3, c4, c5, c6, -⟩ := S1)
        | (go_at_call 11; (with_reducible refine (hq' _).mono ?_); rintro e w2 ⟨rfl, hb⟩; (have S1 := S.step hb); clear S hb c1 c2 c3 c4 c5 c6; have S := S1; obtain ⟨c1, c2, c3, c4, c5, c6, -⟩ := S1)
        | (go_at_call 11; (with_reducible refine (hr' _).mono ?_); rintro e w2 ⟨rfl, hb⟩; (have S1 := S.step hb); clear S hb c1 c2 c3 c4 c5 c6; have S := S1; obtain ⟨c1, c2, c3, c4, c5, c6, -⟩ := S1)
        | (go_at_call 12; refine (num_any _ _).mono ?_; rintro e w' ⟨rfl, rfl⟩))
      go_ret
      exact ⟨rfl, S.below⟩
    · clear hp hq hr
      go_enter Try.func4, Try.ntmps4
      go_wp2_with (first
        | (go_at_call 8; refine (ha _).mono ?_; rintro e w1 ⟨rfl, hb⟩; (have S1 := S.step hb); clear S hb; have S := S1; obtain ⟨c1, c2, c3, c4, c5, c6, -⟩ := S1)
        | (go_at_call 11; (with_reducible refine (hab _).mono ?_); rintro e w2 ⟨rfl, hb⟩; (have S1 := S.step hb); clear S hb c1 c2 c3 c4 c5 c6; have S := S1; obtain ⟨c1, c2, c3, c4, c5, c6, -⟩ := S1)
        | (go_at_call 11; (with_reducible refine (hbc _).mono ?_); rintro e w2 ⟨rfl, hb⟩; (have S1 := S.step hb); clear S hb c1 c2 c3 c4 c5 c6; have S := S1; obtain ⟨c1, c2, c3, c4, c5, c6, -⟩ := S1)
        | (go_at_call 11; (with_reducible refine (hac _).mono ?_); rintro e w2 ⟨rfl, hb⟩; (have S1 := S.step hb); clear S hb c1 c2 c3 c4 c5 c6; have S := S1; obtain ⟨c1, c2, c3, c4, c5, c6, -⟩ := S1)
        | (go_at_call 11; (with_reducible refine (hba _).mono ?_); rintro e w2 ⟨rfl, hb⟩; (have S1 := S.step hb); clear S hb c1 c2 c3 c4 c5 c6; have S := S1; obtain ⟨c1, c2, c3, c4, c5, c6, -⟩ := S1)
        | (go_at_call 12; refine (num_any _ _).mono ?_; rintro e w' ⟨rfl, rfl⟩))
      go_ret
      exact ⟨rfl, S.below⟩

set_option maxHeartbeats 4000000 in
set_option maxRecDepth 100000 in
theorem pos_x (ax ay bx bY cx cy n x y z : Int) (w : World) (hx1 : -1 ≤ x) (hx2 : x ≤ 1) (k1 : 0 < x)
    (hab : Cmps ax ay bx bY x 0) (hbc : Cmps bx bY cx cy y 0) (hac : Cmps ax ay cx cy z 0) (hba : Cmps bx bY ax ay (-x) 0)
    (hp : 0 ≤ n → n < 9214364837600034816 → Cmps n (-9223372036854775808) n 0 0 0)
    (hq : 0 ≤ n → n < 9214364837600034816 → Cmps n (bits .and .i64 ax 65535) (n + 1) (-9223372036854775808) (-1) 0)
    (hr : 0 ≤ n → n < 9214364837600034816 → Cmps (bits .or .i64 (n + 1) (-9223372036854775808)) 0 (bits .or .i64 n (-9223372036854775808)) 0 (-1) 0) :
    Calls Try.prog 4 #[.agg #[.int .i64 ax, .int .i64 ay], .agg #[.int .i64 bx, .int .i64 bY], .agg #[.int .i64 cx, .int .i64 cy], .int .i64 n] w (Ends w (.bool true)) := by
  have S := Boxed3.start w (.int .i64 ax) (.int .i64 ay) (.int .i64 bx) (.int .i64 bY) (.int .i64 cx) (.int .i64 cy) 25 25 25
  have ha := alive_any
  have b1 := build25
  by_cases hn : n < 0
  · clear hp hq hr
    go_enter Try.func4, Try.ntmps4
    go_wp2_with (first
        | (go_at_call 8; refine (ha _).mono ?_; rintro e w1 ⟨rfl, hb⟩; (have S1 := S.step hb); clear S hb; have S := S1; obtain ⟨c1, c2, c3, c4, c5, c6, -⟩ := S1)
        | (go_at_call 11; (with_reducible refine (hab _).mono ?_); rintro e w2 ⟨rfl, hb⟩; (have S1 := S.step hb); clear S hb c1 c2 c3 c4 c5 c6; have S := S1; obtain ⟨c1, c2, c3, c4, c5, c6, -⟩ := S1)
        | (go_at_call 11; (with_reducible refine (hbc _).mono ?_); rintro e w2 ⟨rfl, hb⟩; (have S1 := S.step hb); clear S hb c1 c2 c3 c4 c5 c6; have S := S1; obtain ⟨c1, c2, c3, c4, c5, c6, -⟩ := S1)
        | (go_at_call 11; (with_reducible refine (hac _).mono ?_); rintro e w2 ⟨rfl, hb⟩; (have S1 := S.step hb); clear S hb c1 c2 c3 c4 c5 c6; have S := S1; obtain ⟨c1, c2, c3, c4, c5, c6, -⟩ := S1)
        | (go_at_call 11; (with_reducible refine (hba _).mono ?_); rintro e w2 ⟨rfl, hb⟩; (have S1 := S.step hb); clear S hb c1 c2 c3 c4 c5 c6; have S := S1; obtain ⟨c1, c2, c3, c4, c5, c6, -⟩ := S1)
        | (go_at_call 12; refine (num_any _ _).mono ?_; rintro e w' ⟨rfl, rfl⟩))
    go_ret
    exact ⟨rfl, S.below⟩
  · by_cases hm : n < 9214364837600034816
    · have hp' := hp (by omega) hm
      have hq' := hq (by omega) hm
      have hr' := hr (by omega) hm
      clear hp hq hr
      go_enter Try.func4, Try.ntmps4
      go_wp2_with (first
        | (go_at_call 8; refine (ha _).mono ?_; rintro e w1 ⟨rfl, hb⟩; (have S1 := S.step hb); clear S hb; have S := S1; obtain ⟨c1, c2, c3, c4, c5, c6, -⟩ := S1)
        | (go_at_call 11; (with_reducible refine (hab _).mono ?_); rintro e w2 ⟨rfl, hb⟩; (have S1 := S.step hb); clear S hb c1 c2 c3 c4 c5 c6; have S := S1; obtain ⟨c1, c2, c3, c4, c5, c6, -⟩ := S1)
        | (go_at_call 11; (with_reducible refine (hbc _).mono ?_); rintro e w2 ⟨rfl, hb⟩; (have S1 := S.step hb); clear S hb c1 c2 c3 c4 c5 c6; have S := S1; obtain ⟨c1, c2, c3, c4, c5, c6, -⟩ := S1)
        | (go_at_call 11; (with_reducible refine (hac _).mono ?_); rintro e w2 ⟨rfl, hb⟩; (have S1 := S.step hb); clear S hb c1 c2 c3 c4 c5 c6; have S := S1; obtain ⟨c1, c2, c3, c4, c5, c6, -⟩ := S1)
        | (go_at_call 11; (with_reducible refine (hba _).mono ?_); rintro e w2 ⟨rfl, hb⟩; (have S1 := S.step hb); clear S hb c1 c2 c3 c4 c5 c6; have S := S1; obtain ⟨c1, c2, c3, c4, c5, c6, -⟩ := S1)
        | (go_at_call 11; (with_reducible refine (hp' _).mono ?_); rintro e w2 ⟨rfl, hb⟩; (have S1 := S.step hb); clear S hb c1 c2 c3 c4 c5 c6; have S := S1; obtain ⟨c1, c2, c3, c4, c5, c6, -⟩ := S1)
        | (go_at_call 11; (with_reducible refine (hq' _).mono ?_); rintro e w2 ⟨rfl, hb⟩; (have S1 := S.step hb); clear S hb c1 c2 c3 c4 c5 c6; have S := S1; obtain ⟨c1, c2, c3, c4, c5, c6, -⟩ := S1)
        | (go_at_call 11; (with_reducible refine (hr' _).mono ?_); rintro e w2 ⟨rfl, hb⟩; (have S1 := S.step hb); clear S hb c1 c2 c3 c4 c5 c6; have S := S1; obtain ⟨c1, c2, c3, c4, c5, c6, -⟩ := S1)
        | (go_at_call 12; refine (num_any _ _).mono ?_; rintro e w' ⟨rfl, rfl⟩))
      go_ret
      exact ⟨rfl, S.below⟩
    · clear hp hq hr
      go_enter Try.func4, Try.ntmps4
      go_wp2_with (first
        | (go_at_call 8; refine (ha _).mono ?_; rintro e w1 ⟨rfl, hb⟩; (have S1 := S.step hb); clear S hb; have S := S1; obtain ⟨c1, c2, c3, c4, c5, c6, -⟩ := S1)
        | (go_at_call 11; (with_reducible refine (hab _).mono ?_); rintro e w2 ⟨rfl, hb⟩; (have S1 := S.step hb); clear S hb c1 c2 c3 c4 c5 c6; have S := S1; obtain ⟨c1, c2, c3, c4, c5, c6, -⟩ := S1)
        | (go_at_call 11; (with_reducible refine (hbc _).mono ?_); rintro e w2 ⟨rfl, hb⟩; (have S1 := S.step hb); clear S hb c1 c2 c3 c4 c5 c6; have S := S1; obtain ⟨c1, c2, c3, c4, c5, c6, -⟩ := S1)
        | (go_at_call 11; (with_reducible refine (hac _).mono ?_); rintro e w2 ⟨rfl, hb⟩; (have S1 := S.step hb); clear S hb c1 c2 c3 c4 c5 c6; have S := S1; obtain ⟨c1, c2, c3, c4, c5, c6, -⟩ := S1)
        | (go_at_call 11; (with_reducible refine (hba _).mono ?_); rintro e w2 ⟨rfl, hb⟩; (have S1 := S.step hb); clear S hb c1 c2 c3 c4 c5 c6; have S := S1; obtain ⟨c1, c2, c3, c4, c5, c6, -⟩ := S1)
        | (go_at_call 12; refine (num_any _ _).mono ?_; rintro e w' ⟨rfl, rfl⟩))
      go_ret
      exact ⟨rfl, S.below⟩

set_option maxHeartbeats 4000000 in
set_option maxRecDepth 100000 in
theorem neg_pos (ax ay bx bY cx cy n x y z : Int) (w : World) (hx1 : -1 ≤ x) (hx2 : x ≤ 1) (k1 : x < 0) (k2 : 0 < y)
    (hab : Cmps ax ay bx bY x 0) (hbc : Cmps bx bY cx cy y 0) (hac : Cmps ax ay cx cy z 0) (hba : Cmps bx bY ax ay (-x) 0)
    (hp : 0 ≤ n → n < 9214364837600034816 → Cmps n (-9223372036854775808) n 0 0 0)
    (hq : 0 ≤ n → n < 9214364837600034816 → Cmps n (bits .and .i64 ax 65535) (n + 1) (-9223372036854775808) (-1) 0)
    (hr : 0 ≤ n → n < 9214364837600034816 → Cmps (bits .or .i64 (n + 1) (-9223372036854775808)) 0 (bits .or .i64 n (-9223372036854775808)) 0 (-1) 0) :
    Calls Try.prog 4 #[.agg #[.int .i64 ax, .int .i64 ay], .agg #[.int .i64 bx, .int .i64 bY], .agg #[.int .i64 cx, .int .i64 cy], .int .i64 n] w (Ends w (.bool true)) := by
  have S := Boxed3.start w (.int .i64 ax) (.int .i64 ay) (.int .i64 bx) (.int .i64 bY) (.int .i64 cx) (.int .i64 cy) 25 25 25
  have ha := alive_any
  have b1 := build25
  by_cases hn : n < 0
  · clear hp hq hr
    go_enter Try.func4, Try.ntmps4
    go_wp2_with (first
        | (go_at_call 8; refine (ha _).mono ?_; rintro e w1 ⟨rfl, hb⟩; (have S1 := S.step hb); clear S hb; have S := S1; obtain ⟨c1, c2, c3, c4, c5, c6, -⟩ := S1)
        | (go_at_call 11; (with_reducible refine (hab _).mono ?_); rintro e w2 ⟨rfl, hb⟩; (have S1 := S.step hb); clear S hb c1 c2 c3 c4 c5 c6; have S := S1; obtain ⟨c1, c2, c3, c4, c5, c6, -⟩ := S1)
        | (go_at_call 11; (with_reducible refine (hbc _).mono ?_); rintro e w2 ⟨rfl, hb⟩; (have S1 := S.step hb); clear S hb c1 c2 c3 c4 c5 c6; have S := S1; obtain ⟨c1, c2, c3, c4, c5, c6, -⟩ := S1)
        | (go_at_call 11; (with_reducible refine (hac _).mono ?_); rintro e w2 ⟨rfl, hb⟩; (have S1 := S.step hb); clear S hb c1 c2 c3 c4 c5 c6; have S := S1; obtain ⟨c1, c2, c3, c4, c5, c6, -⟩ := S1)
        | (go_at_call 11; (with_reducible refine (hba _).mono ?_); rintro e w2 ⟨rfl, hb⟩; (have S1 := S.step hb); clear S hb c1 c2 c3 c4 c5 c6; have S := S1; obtain ⟨c1, c2, c3, c4, c5, c6, -⟩ := S1)
        | (go_at_call 12; refine (num_any _ _).mono ?_; rintro e w' ⟨rfl, rfl⟩))
    go_ret
    exact ⟨rfl, S.below⟩
  · by_cases hm : n < 9214364837600034816
    · have hp' := hp (by omega) hm
      have hq' := hq (by omega) hm
      have hr' := hr (by omega) hm
      clear hp hq hr
      go_enter Try.func4, Try.ntmps4
      go_wp2_with (first
        | (go_at_call 8; refine (ha _).mono ?_; rintro e w1 ⟨rfl, hb⟩; (have S1 := S.step hb); clear S hb; have S := S1; obtain ⟨c1, c2, c3, c4, c5, c6, -⟩ := S1)
        | (go_at_call 11; (with_reducible refine (hab _).mono ?_); rintro e w2 ⟨rfl, hb⟩; (have S1 := S.step hb); clear S hb c1 c2 c3 c4 c5 c6; have S := S1; obtain ⟨c1, c2, c3, c4, c5, c6, -⟩ := S1)
        | (go_at_call 11; (with_reducible refine (hbc _).mono ?_); rintro e w2 ⟨rfl, hb⟩; (have S1 := S.step hb); clear S hb c1 c2 c3 c4 c5 c6; have S := S1; obtain ⟨c1, c2, c3, c4, c5, c6, -⟩ := S1)
        | (go_at_call 11; (with_reducible refine (hac _).mono ?_); rintro e w2 ⟨rfl, hb⟩; (have S1 := S.step hb); clear S hb c1 c2 c3 c4 c5 c6; have S := S1; obtain ⟨c1, c2, c3, c4, c5, c6, -⟩ := S1)
        | (go_at_call 11; (with_reducible refine (hba _).mono ?_); rintro e w2 ⟨rfl, hb⟩; (have S1 := S.step hb); clear S hb c1 c2 c3 c4 c5 c6; have S := S1; obtain ⟨c1, c2, c3, c4, c5, c6, -⟩ := S1)
        | (go_at_call 11; (with_reducible refine (hp' _).mono ?_); rintro e w2 ⟨rfl, hb⟩; (have S1 := S.step hb); clear S hb c1 c2 c3 c4 c5 c6; have S := S1; obtain ⟨c1, c2, c3, c4, c5, c6, -⟩ := S1)
        | (go_at_call 11; (with_reducible refine (hq' _).mono ?_); rintro e w2 ⟨rfl, hb⟩; (have S1 := S.step hb); clear S hb c1 c2 c3 c4 c5 c6; have S := S1; obtain ⟨c1, c2, c3, c4, c5, c6, -⟩ := S1)
        | (go_at_call 11; (with_reducible refine (hr' _).mono ?_); rintro e w2 ⟨rfl, hb⟩; (have S1 := S.step hb); clear S hb c1 c2 c3 c4 c5 c6; have S := S1; obtain ⟨c1, c2, c3, c4, c5, c6, -⟩ := S1)
        | (go_at_call 12; refine (num_any _ _).mono ?_; rintro e w' ⟨rfl, rfl⟩))
      go_ret
      exact ⟨rfl, S.below⟩
    · clear hp hq hr
      go_enter Try.func4, Try.ntmps4
      go_wp2_with (first
        | (go_at_call 8; refine (ha _).mono ?_; rintro e w1 ⟨rfl, hb⟩; (have S1 := S.step hb); clear S hb; have S := S1; obtain ⟨c1, c2, c3, c4, c5, c6, -⟩ := S1)
        | (go_at_call 11; (with_reducible refine (hab _).mono ?_); rintro e w2 ⟨rfl, hb⟩; (have S1 := S.step hb); clear S hb c1 c2 c3 c4 c5 c6; have S := S1; obtain ⟨c1, c2, c3, c4, c5, c6, -⟩ := S1)
        | (go_at_call 11; (with_reducible refine (hbc _).mono ?_); rintro e w2 ⟨rfl, hb⟩; (have S1 := S.step hb); clear S hb c1 c2 c3 c4 c5 c6; have S := S1; obtain ⟨c1, c2, c3, c4, c5, c6, -⟩ := S1)
        | (go_at_call 11; (with_reducible refine (hac _).mono ?_); rintro e w2 ⟨rfl, hb⟩; (have S1 := S.step hb); clear S hb c1 c2 c3 c4 c5 c6; have S := S1; obtain ⟨c1, c2, c3, c4, c5, c6, -⟩ := S1)
        | (go_at_call 11; (with_reducible refine (hba _).mono ?_); rintro e w2 ⟨rfl, hb⟩; (have S1 := S.step hb); clear S hb c1 c2 c3 c4 c5 c6; have S := S1; obtain ⟨c1, c2, c3, c4, c5, c6, -⟩ := S1)
        | (go_at_call 12; refine (num_any _ _).mono ?_; rintro e w' ⟨rfl, rfl⟩))
      go_ret
      exact ⟨rfl, S.below⟩

set_option maxHeartbeats 4000000 in
set_option maxRecDepth 100000 in
theorem zero_pos (ax ay bx bY cx cy n x y z : Int) (w : World) (hx1 : -1 ≤ x) (hx2 : x ≤ 1) (k1 : 0 ≤ x) (k3 : x ≤ 0) (k2 : 0 < y)
    (hab : Cmps ax ay bx bY x 0) (hbc : Cmps bx bY cx cy y 0) (hac : Cmps ax ay cx cy z 0) (hba : Cmps bx bY ax ay (-x) 0)
    (hp : 0 ≤ n → n < 9214364837600034816 → Cmps n (-9223372036854775808) n 0 0 0)
    (hq : 0 ≤ n → n < 9214364837600034816 → Cmps n (bits .and .i64 ax 65535) (n + 1) (-9223372036854775808) (-1) 0)
    (hr : 0 ≤ n → n < 9214364837600034816 → Cmps (bits .or .i64 (n + 1) (-9223372036854775808)) 0 (bits .or .i64 n (-9223372036854775808)) 0 (-1) 0) :
    Calls Try.prog 4 #[.agg #[.int .i64 ax, .int .i64 ay], .agg #[.int .i64 bx, .int .i64 bY], .agg #[.int .i64 cx, .int .i64 cy], .int .i64 n] w (Ends w (.bool true)) := by
  have S := Boxed3.start w (.int .i64 ax) (.int .i64 ay) (.int .i64 bx) (.int .i64 bY) (.int .i64 cx) (.int .i64 cy) 25 25 25
  have ha := alive_any
  have b1 := build25
  by_cases hn : n < 0
  · clear hp hq hr
    go_enter Try.func4, Try.ntmps4
    go_wp2_with (first
        | (go_at_call 8; refine (ha _).mono ?_; rintro e w1 ⟨rfl, hb⟩; (have S1 := S.step hb); clear S hb; have S := S1; obtain ⟨c1, c2, c3, c4, c5, c6, -⟩ := S1)
        | (go_at_call 11; (with_reducible refine (hab _).mono ?_); rintro e w2 ⟨rfl, hb⟩; (have S1 := S.step hb); clear S hb c1 c2 c3 c4 c5 c6; have S := S1; obtain ⟨c1, c2, c3, c4, c5, c6, -⟩ := S1)
        | (go_at_call 11; (with_reducible refine (hbc _).mono ?_); rintro e w2 ⟨rfl, hb⟩; (have S1 := S.step hb); clear S hb c1 c2 c3 c4 c5 c6; have S := S1; obtain ⟨c1, c2, c3, c4, c5, c6, -⟩ := S1)
        | (go_at_call 11; (with_reducible refine (hac _).mono ?_); rintro e w2 ⟨rfl, hb⟩; (have S1 := S.step hb); clear S hb c1 c2 c3 c4 c5 c6; have S := S1; obtain ⟨c1, c2, c3, c4, c5, c6, -⟩ := S1)
        | (go_at_call 11; (with_reducible refine (hba _).mono ?_); rintro e w2 ⟨rfl, hb⟩; (have S1 := S.step hb); clear S hb c1 c2 c3 c4 c5 c6; have S := S1; obtain ⟨c1, c2, c3, c4, c5, c6, -⟩ := S1)
        | (go_at_call 12; refine (num_any _ _).mono ?_; rintro e w' ⟨rfl, rfl⟩))
    go_ret
    exact ⟨rfl, S.below⟩
  · by_cases hm : n < 9214364837600034816
    · have hp' := hp (by omega) hm
      have hq' := hq (by omega) hm
      have hr' := hr (by omega) hm
      clear hp hq hr
      go_enter Try.func4, Try.ntmps4
      go_wp2_with (first
        | (go_at_call 8; refine (ha _).mono ?_; rintro e w1 ⟨rfl, hb⟩; (have S1 := S.step hb); clear S hb; have S := S1; obtain ⟨c1, c2, c3, c4, c5, c6, -⟩ := S1)
        | (go_at_call 11; (with_reducible refine (hab _).mono ?_); rintro e w2 ⟨rfl, hb⟩; (have S1 := S.step hb); clear S hb c1 c2 c3 c4 c5 c6; have S := S1; obtain ⟨c1, c2, c3, c4, c5, c6, -⟩ := S1)
        | (go_at_call 11; (with_reducible refine (hbc _).mono ?_); rintro e w2 ⟨rfl, hb⟩; (have S1 := S.step hb); clear S hb c1 c2 c3 c4 c5 c6; have S := S1; obtain ⟨c1, c2, c3, c4, c5, c6, -⟩ := S1)
        | (go_at_call 11; (with_reducible refine (hac _).mono ?_); rintro e w2 ⟨rfl, hb⟩; (have S1 := S.step hb); clear S hb c1 c2 c3 c4 c5 c6; have S := S1; obtain ⟨c1, c2, c3, c4, c5, c6, -⟩ := S1)
        | (go_at_call 11; (with_reducible refine (hba _).mono ?_); rintro e w2 ⟨rfl, hb⟩; (have S1 := S.step hb); clear S hb c1 c2 c3 c4 c5 c6; have S := S1; obtain ⟨c1, c2, c3, c4, c5, c6, -⟩ := S1)
        | (go_at_call 11; (with_reducible refine (hp' _).mono ?_); rintro e w2 ⟨rfl, hb⟩; (have S1 := S.step hb); clear S hb c1 c2 c3 c4 c5 c6; have S := S1; obtain ⟨c1, c2, c3, c4, c5, c6, -⟩ := S1)
        | (go_at_call 11; (with_reducible refine (hq' _).mono ?_); rintro e w2 ⟨rfl, hb⟩; (have S1 := S.step hb); clear S hb c1 c2 c3 c4 c5 c6; have S := S1; obtain ⟨c1, c2, c3, c4, c5, c6, -⟩ := S1)
        | (go_at_call 11; (with_reducible refine (hr' _).mono ?_); rintro e w2 ⟨rfl, hb⟩; (have S1 := S.step hb); clear S hb c1 c2 c3 c4 c5 c6; have S := S1; obtain ⟨c1, c2, c3, c4, c5, c6, -⟩ := S1)
        | (go_at_call 12; refine (num_any _ _).mono ?_; rintro e w' ⟨rfl, rfl⟩))
      go_ret
      exact ⟨rfl, S.below⟩
    · clear hp hq hr
      go_enter Try.func4, Try.ntmps4
      go_wp2_with (first
        | (go_at_call 8; refine (ha _).mono ?_; rintro e w1 ⟨rfl, hb⟩; (have S1 := S.step hb); clear S hb; have S := S1; obtain ⟨c1, c2, c3, c4, c5, c6, -⟩ := S1)
        | (go_at_call 11; (with_reducible refine (hab _).mono ?_); rintro e w2 ⟨rfl, hb⟩; (have S1 := S.step hb); clear S hb c1 c2 c3 c4 c5 c6; have S := S1; obtain ⟨c1, c2, c3, c4, c5, c6, -⟩ := S1)
        | (go_at_call 11; (with_reducible refine (hbc _).mono ?_); rintro e w2 ⟨rfl, hb⟩; (have S1 := S.step hb); clear S hb c1 c2 c3 c4 c5 c6; have S := S1; obtain ⟨c1, c2, c3, c4, c5, c6, -⟩ := S1)
        | (go_at_call 11; (with_reducible refine (hac _).mono ?_); rintro e w2 ⟨rfl, hb⟩; (have S1 := S.step hb); clear S hb c1 c2 c3 c4 c5 c6; have S := S1; obtain ⟨c1, c2, c3, c4, c5, c6, -⟩ := S1)
        | (go_at_call 11; (with_reducible refine (hba _).mono ?_); rintro e w2 ⟨rfl, hb⟩; (have S1 := S.step hb); clear S hb c1 c2 c3 c4 c5 c6; have S := S1; obtain ⟨c1, c2, c3, c4, c5, c6, -⟩ := S1)
        | (go_at_call 12; refine (num_any _ _).mono ?_; rintro e w' ⟨rfl, rfl⟩))
      go_ret
      exact ⟨rfl, S.below⟩

set_option maxHeartbeats 4000000 in
set_option maxRecDepth 100000 in
theorem zero_le (ax ay bx bY cx cy n x y z : Int) (w : World) (hx1 : -1 ≤ x) (hx2 : x ≤ 1) (k1 : 0 ≤ x) (k3 : x ≤ 0) (k2 : y ≤ 0) (k4 : z ≤ 0)
    (hab : Cmps ax ay bx bY x 0) (hbc : Cmps bx bY cx cy y 0) (hac : Cmps ax ay cx cy z 0) (hba : Cmps bx bY ax ay (-x) 0)
    (hp : 0 ≤ n → n < 9214364837600034816 → Cmps n (-9223372036854775808) n 0 0 0)
    (hq : 0 ≤ n → n < 9214364837600034816 → Cmps n (bits .and .i64 ax 65535) (n + 1) (-9223372036854775808) (-1) 0)
    (hr : 0 ≤ n → n < 9214364837600034816 → Cmps (bits .or .i64 (n + 1) (-9223372036854775808)) 0 (bits .or .i64 n (-9223372036854775808)) 0 (-1) 0) :
    Calls Try.prog 4 #[.agg #[.int .i64 ax, .int .i64 ay], .agg #[.int .i64 bx, .int .i64 bY], .agg #[.int .i64 cx, .int .i64 cy], .int .i64 n] w (Ends w (.bool true)) := by
  have S := Boxed3.start w (.int .i64 ax) (.int .i64 ay) (.int .i64 bx) (.int .i64 bY) (.int .i64 cx) (.int .i64 cy) 25 25 25
  have ha := alive_any
  have b1 := build25
  by_cases hn : n < 0
  · clear hp hq hr
    go_enter Try.func4, Try.ntmps4
    go_wp2_with (first
        | (go_at_call 8; refine (ha _).mono ?_; rintro e w1 ⟨rfl, hb⟩; (have S1 := S.step hb); clear S hb; have S := S1; obtain ⟨c1, c2, c3, c4, c5, c6, -⟩ := S1)
        | (go_at_call 11; (with_reducible refine (hab _).mono ?_); rintro e w2 ⟨rfl, hb⟩; (have S1 := S.step hb); clear S hb c1 c2 c3 c4 c5 c6; have S := S1; obtain ⟨c1, c2, c3, c4, c5, c6, -⟩ := S1)
        | (go_at_call 11; (with_reducible refine (hbc _).mono ?_); rintro e w2 ⟨rfl, hb⟩; (have S1 := S.step hb); clear S hb c1 c2 c3 c4 c5 c6; have S := S1; obtain ⟨c1, c2, c3, c4, c5, c6, -⟩ := S1)
        | (go_at_call 11; (with_reducible refine (hac _).mono ?_); rintro e w2 ⟨rfl, hb⟩; (have S1 := S.step hb); clear S hb c1 c2 c3 c4 c5 c6; have S := S1; obtain ⟨c1, c2, c3, c4, c5, c6, -⟩ := S1)
        | (go_at_call 11; (with_reducible refine (hba _).mono ?_); rintro e w2 ⟨rfl, hb⟩; (have S1 := S.step hb); clear S hb c1 c2 c3 c4 c5 c6; have S := S1; obtain ⟨c1, c2, c3, c4, c5, c6, -⟩ := S1)
        | (go_at_call 12; refine (num_any _ _).mono ?_; rintro e w' ⟨rfl, rfl⟩))
    go_ret
    exact ⟨rfl, S.below⟩
  · by_cases hm : n < 9214364837600034816
    · have hp' := hp (by omega) hm
      have hq' := hq (by omega) hm
      have hr' := hr (by omega) hm
      clear hp hq hr
      go_enter Try.func4, Try.ntmps4
      go_wp2_with (first
        | (go_at_call 8; refine (ha _).mono ?_; rintro e w1 ⟨rfl, hb⟩; (have S1 := S.step hb); clear S hb; have S := S1; obtain ⟨c1, c2, c3, c4, c5, c6, -⟩ := S1)
        | (go_at_call 11; (with_reducible refine (hab _).mono ?_); rintro e w2 ⟨rfl, hb⟩; (have S1 := S.step hb); clear S hb c1 c2 c3 c4 c5 c6; have S := S1; obtain ⟨c1, c2, c3, c4, c5, c6, -⟩ := S1)
        | (go_at_call 11; (with_reducible refine (hbc _).mono ?_); rintro e w2 ⟨rfl, hb⟩; (have S1 := S.step hb); clear S hb c1 c2 c3 c4 c5 c6; have S := S1; obtain ⟨c1, c2, c3, c4, c5, c6, -⟩ := S1)
        | (go_at_call 11; (with_reducible refine (hac _).mono ?_); rintro e w2 ⟨rfl, hb⟩; (have S1 := S.step hb); clear S hb c1 c2 c3 c4 c5 c6; have S := S1; obtain ⟨c1, c2, c3, c4, c5, c6, -⟩ := S1)
        | (go_at_call 11; (with_reducible refine (hba _).mono ?_); rintro e w2 ⟨rfl, hb⟩; (have S1 := S.step hb); clear S hb c1 c2 c3 c4 c5 c6; have S := S1; obtain ⟨c1, c2, c3, c4, c5, c6, -⟩ := S1)
        | (go_at_call 11; (with_reducible refine (hp' _).mono ?_); rintro e w2 ⟨rfl, hb⟩; (have S1 := S.step hb); clear S hb c1 c2 c3 c4 c5 c6; have S := S1; obtain ⟨c1, c2, c3, c4, c5, c6, -⟩ := S1)
        | (go_at_call 11; (with_reducible refine (hq' _).mono ?_); rintro e w2 ⟨rfl, hb⟩; (have S1 := S.step hb); clear S hb c1 c2 c3 c4 c5 c6; have S := S1; obtain ⟨c1, c2, c3, c4, c5, c6, -⟩ := S1)
        | (go_at_call 11; (with_reducible refine (hr' _).mono ?_); rintro e w2 ⟨rfl, hb⟩; (have S1 := S.step hb); clear S hb c1 c2 c3 c4 c5 c6; have S := S1; obtain ⟨c1, c2, c3, c4, c5, c6, -⟩ := S1)
        | (go_at_call 12; refine (num_any _ _).mono ?_; rintro e w' ⟨rfl, rfl⟩))
      go_ret
      exact ⟨rfl, S.below⟩
    · clear hp hq hr
      go_enter Try.func4, Try.ntmps4
      go_wp2_with (first
        | (go_at_call 8; refine (ha _).mono ?_; rintro e w1 ⟨rfl, hb⟩; (have S1 := S.step hb); clear S hb; have S := S1; obtain ⟨c1, c2, c3, c4, c5, c6, -⟩ := S1)
        | (go_at_call 11; (with_reducible refine (hab _).mono ?_); rintro e w2 ⟨rfl, hb⟩; (have S1 := S.step hb); clear S hb c1 c2 c3 c4 c5 c6; have S := S1; obtain ⟨c1, c2, c3, c4, c5, c6, -⟩ := S1)
        | (go_at_call 11; (with_reducible refine (hbc _).mono ?_); rintro e w2 ⟨rfl, hb⟩; (have S1 := S.step hb); clear S hb c1 c2 c3 c4 c5 c6; have S := S1; obtain ⟨c1, c2, c3, c4, c5, c6, -⟩ := S1)
        | (go_at_call 11; (with_reducible refine (hac _).mono ?_); rintro e w2 ⟨rfl, hb⟩; (have S1 := S.step hb); clear S hb c1 c2 c3 c4 c5 c6; have S := S1; obtain ⟨c1, c2, c3, c4, c5, c6, -⟩ := S1)
        | (go_at_call 11; (with_reducible refine (hba _).mono ?_); rintro e w2 ⟨rfl, hb⟩; (have S1 := S.step hb); clear S hb c1 c2 c3 c4 c5 c6; have S := S1; obtain ⟨c1, c2, c3, c4, c5, c6, -⟩ := S1)
        | (go_at_call 12; refine (num_any _ _).mono ?_; rintro e w' ⟨rfl, rfl⟩))
      go_ret
      exact ⟨rfl, S.below⟩

set_option maxHeartbeats 4000000 in
set_option maxRecDepth 100000 in
theorem neg_le (ax ay bx bY cx cy n x y z : Int) (w : World) (hx1 : -1 ≤ x) (hx2 : x ≤ 1) (k1 : x < 0) (k2 : y ≤ 0) (k4 : z < 0)
    (hab : Cmps ax ay bx bY x 0) (hbc : Cmps bx bY cx cy y 0) (hac : Cmps ax ay cx cy z 0) (hba : Cmps bx bY ax ay (-x) 0)
    (hp : 0 ≤ n → n < 9214364837600034816 → Cmps n (-9223372036854775808) n 0 0 0)
    (hq : 0 ≤ n → n < 9214364837600034816 → Cmps n (bits .and .i64 ax 65535) (n + 1) (-9223372036854775808) (-1) 0)
    (hr : 0 ≤ n → n < 9214364837600034816 → Cmps (bits .or .i64 (n + 1) (-9223372036854775808)) 0 (bits .or .i64 n (-9223372036854775808)) 0 (-1) 0) :
    Calls Try.prog 4 #[.agg #[.int .i64 ax, .int .i64 ay], .agg #[.int .i64 bx, .int .i64 bY], .agg #[.int .i64 cx, .int .i64 cy], .int .i64 n] w (Ends w (.bool true)) := by
  have S := Boxed3.start w (.int .i64 ax) (.int .i64 ay) (.int .i64 bx) (.int .i64 bY) (.int .i64 cx) (.int .i64 cy) 25 25 25
  have ha := alive_any
  have b1 := build25
  by_cases hn : n < 0
  · clear hp hq hr
    go_enter Try.func4, Try.ntmps4
    go_wp2_with (first
        | (go_at_call 8; refine (ha _).mono ?_; rintro e w1 ⟨rfl, hb⟩; (have S1 := S.step hb); clear S hb; have S := S1; obtain ⟨c1, c2, c3, c4, c5, c6, -⟩ := S1)
        | (go_at_call 11; (with_reducible refine (hab _).mono ?_); rintro e w2 ⟨rfl, hb⟩; (have S1 := S.step hb); clear S hb c1 c2 c3 c4 c5 c6; have S := S1; obtain ⟨c1, c2, c3, c4, c5, c6, -⟩ := S1)
        | (go_at_call 11; (with_reducible refine (hbc _).mono ?_); rintro e w2 ⟨rfl, hb⟩; (have S1 := S.step hb); clear S hb c1 c2 c3 c4 c5 c6; have S := S1; obtain ⟨c1, c2, c3, c4, c5, c6, -⟩ := S1)
        | (go_at_call 11; (with_reducible refine (hac _).mono ?_); rintro e w2 ⟨rfl, hb⟩; (have S1 := S.step hb); clear S hb c1 c2 c3 c4 c5 c6; have S := S1; obtain ⟨c1, c2, c3, c4, c5, c6, -⟩ := S1)
        | (go_at_call 11; (with_reducible refine (hba _).mono ?_); rintro e w2 ⟨rfl, hb⟩; (have S1 := S.step hb); clear S hb c1 c2 c3 c4 c5 c6; have S := S1; obtain ⟨c1, c2, c3, c4, c5, c6, -⟩ := S1)
        | (go_at_call 12; refine (num_any _ _).mono ?_; rintro e w' ⟨rfl, rfl⟩))
    go_ret
    exact ⟨rfl, S.below⟩
  · by_cases hm : n < 9214364837600034816
    · have hp' := hp (by omega) hm
      have hq' := hq (by omega) hm
      have hr' := hr (by omega) hm
      clear hp hq hr
      go_enter Try.func4, Try.ntmps4
      go_wp2_with (first
        | (go_at_call 8; refine (ha _).mono ?_; rintro e w1 ⟨rfl, hb⟩; (have S1 := S.step hb); clear S hb; have S := S1; obtain ⟨c1, c2, c3, c4, c5, c6, -⟩ := S1)
        | (go_at_call 11; (with_reducible refine (hab _).mono ?_); rintro e w2 ⟨rfl, hb⟩; (have S1 := S.step hb); clear S hb c1 c2 c3 c4 c5 c6; have S := S1; obtain ⟨c1, c2, c3, c4, c5, c6, -⟩ := S1)
        | (go_at_call 11; (with_reducible refine (hbc _).mono ?_); rintro e w2 ⟨rfl, hb⟩; (have S1 := S.step hb); clear S hb c1 c2 c3 c4 c5 c6; have S := S1; obtain ⟨c1, c2, c3, c4, c5, c6, -⟩ := S1)
        | (go_at_call 11; (with_reducible refine (hac _).mono ?_); rintro e w2 ⟨rfl, hb⟩; (have S1 := S.step hb); clear S hb c1 c2 c3 c4 c5 c6; have S := S1; obtain ⟨c1, c2, c3, c4, c5, c6, -⟩ := S1)
        | (go_at_call 11; (with_reducible refine (hba _).mono ?_); rintro e w2 ⟨rfl, hb⟩; (have S1 := S.step hb); clear S hb c1 c2 c3 c4 c5 c6; have S := S1; obtain ⟨c1, c2, c3, c4, c5, c6, -⟩ := S1)
        | (go_at_call 11; (with_reducible refine (hp' _).mono ?_); rintro e w2 ⟨rfl, hb⟩; (have S1 := S.step hb); clear S hb c1 c2 c3 c4 c5 c6; have S := S1; obtain ⟨c1, c2, c3, c4, c5, c6, -⟩ := S1)
        | (go_at_call 11; (with_reducible refine (hq' _).mono ?_); rintro e w2 ⟨rfl, hb⟩; (have S1 := S.step hb); clear S hb c1 c2 c3 c4 c5 c6; have S := S1; obtain ⟨c1, c2, c3, c4, c5, c6, -⟩ := S1)
        | (go_at_call 11; (with_reducible refine (hr' _).mono ?_); rintro e w2 ⟨rfl, hb⟩; (have S1 := S.step hb); clear S hb c1 c2 c3 c4 c5 c6; have S := S1; obtain ⟨c1, c2, c3, c4, c5, c6, -⟩ := S1)
        | (go_at_call 12; refine (num_any _ _).mono ?_; rintro e w' ⟨rfl, rfl⟩))
      go_ret
      exact ⟨rfl, S.below⟩
    · clear hp hq hr
      go_enter Try.func4, Try.ntmps4
      go_wp2_with (first
        | (go_at_call 8; refine (ha _).mono ?_; rintro e w1 ⟨rfl, hb⟩; (have S1 := S.step hb); clear S hb; have S := S1; obtain ⟨c1, c2, c3, c4, c5, c6, -⟩ := S1)
        | (go_at_call 11; (with_reducible refine (hab _).mono ?_); rintro e w2 ⟨rfl, hb⟩; (have S1 := S.step hb); clear S hb c1 c2 c3 c4 c5 c6; have S := S1; obtain ⟨c1, c2, c3, c4, c5, c6, -⟩ := S1)
        | (go_at_call 11; (with_reducible refine (hbc _).mono ?_); rintro e w2 ⟨rfl, hb⟩; (have S1 := S.step hb); clear S hb c1 c2 c3 c4 c5 c6; have S := S1; obtain ⟨c1, c2, c3, c4, c5, c6, -⟩ := S1)
        | (go_at_call 11; (with_reducible refine (hac _).mono ?_); rintro e w2 ⟨rfl, hb⟩; (have S1 := S.step hb); clear S hb c1 c2 c3 c4 c5 c6; have S := S1; obtain ⟨c1, c2, c3, c4, c5, c6, -⟩ := S1)
        | (go_at_call 11; (with_reducible refine (hba _).mono ?_); rintro e w2 ⟨rfl, hb⟩; (have S1 := S.step hb); clear S hb c1 c2 c3 c4 c5 c6; have S := S1; obtain ⟨c1, c2, c3, c4, c5, c6, -⟩ := S1)
        | (go_at_call 12; refine (num_any _ _).mono ?_; rintro e w' ⟨rfl, rfl⟩))
      go_ret
      exact ⟨rfl, S.below⟩

end Go.Proofs.Ytbmgjbpcijbocaa.pointLaws
