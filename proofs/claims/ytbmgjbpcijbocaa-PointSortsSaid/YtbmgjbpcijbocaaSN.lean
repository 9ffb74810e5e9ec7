/- The walk of PointSorts: a list too long, and one that is empty. -/
import Derived.Test.YtbmgjbpcijbocaaSW
import Derived.Laws.AppendOwnNone
namespace Go.Proofs.Ytbmgjbpcijbocaa.pointSorts
open Go.RowKit Go.Sort Go.Lib

set_option maxHeartbeats 1000000 in
set_option maxRecDepth 100000 in
theorem walk_long (A : Option Addr) (n lc : Nat) (W : World) (hn : 3000 < n) : Calls Try.prog 7 #[.slice A n lc] W (Ends W (.bool true)) := by
  have ha := alive_any
  have hnz : (n : Int) > 3000 := by omega
  go_enter Try.func7, Try.ntmps7
  go_wp2_with (go_at_call 8; refine (ha _).mono ?_; rintro e w1 ⟨rfl, hb⟩)
  go_ret
  exact ⟨rfl, hb⟩

set_option maxHeartbeats 4000000 in
set_option maxRecDepth 100000 in
theorem walk_nil (A : Option Addr) (lc : Nat) (hA : (A = none ∧ lc = 0) ∨ ∃ a, A = some a) (W : World) : Calls Try.prog 7 #[.slice A 0 lc] W (Ends W (.bool true)) := by
  obtain ⟨i0, hi, hz0, hz1, hz2⟩ := info_parts info25
  have ha := alive_any
  have q1 := eq25
  have b1 := build25
  have hmk : ∀ w : World, (Instr.makeSlice 48 (.int .i64 0) (.int .i64 0)).run Try.prog w = .ok (.slice (some ⟨w.heap.size, 0, none⟩) 0 0) (w.alloc (.cells (madeCells #[.bool false] 0) 4)) := fun w => make48 0 (by omega) w
  rcases hA with ⟨rfl, rfl⟩ | ⟨a, rfl⟩
  all_goals
    go_enter Try.func7, Try.ntmps7
    go_wp2_with (first
      | (go_at_call 8; refine (ha _).mono ?_; rintro e w1 ⟨rfl, hb⟩)
      | (at_builtin; refine wpList_append_own_none rfl _ _ 44 rfl W.heap.size 25 i0 2 Try.underlying44 hi (.slice none 0 0) 0 [] rfl (World.ownsRow_nil _ _ _ _) rfl ?_; have hbA := hb)
      | (at_builtin; refine wpList_append_own _ rfl _ _ 44 rfl W.heap.size 25 i0 _ 2 16 Try.underlying44 hi hz0 hz1 hz2 rfl (by decide) (.slice none 0 0) 0 [] rfl (World.ownsRow_nil _ _ _ _) a 0 lc [] rfl rfl (fun j u h => by simp at h) (fun u h => by simp at h) (by unfold maxLen; omega) (by omega) hb.size ?_
         intro v' w2 hown hg hnil
         obtain rfl := hnil.mpr ⟨rfl, rfl⟩
         have hbA := hb.grown hg hb.size (fun j hj => by cases hj)
         clear hnil hg hown hb)
      | (at_builtin; refine wpList_append_own _ rfl _ _ 44 rfl W.heap.size 25 i0 _ 2 16 Try.underlying44 hi hz0 hz1 hz2 rfl (by decide) (.slice none 0 0) 0 [] rfl (World.ownsRow_nil _ _ _ _) ⟨_, 0, none⟩ 1 1 [.int .i64 (-71), .int .i64 71] rfl rfl (two_new _ _ _ _) (by intro u hu; simp at hu; rcases hu with rfl | rfl <;> rfl) (by unfold maxLen; omega) (by omega) (by simp; have := hbA.size; omega) ?_
         intro v' w3 hown3 hg3 hn3
         clear hn3
         have hbB := (hbA.alloc hbA.size _).grown hg3 (by simp; have := hbA.size; omega) (fun j hj => by cases hj)
         obtain ⟨fb, fc, rfl, hge3, hgl3⟩ := hown3.form (by omega)
         have hcap := own_cap hown3
         have hcz : (0 : Int) ≤ (fc : Int) := by omega
         have hc0 : ¬ fc = 0 := by omega
         have f0 : w3.cell? ⟨fb, 0, none⟩ = some (.int .i64 (-71)) := hown3.cellAt 0 (by omega)
         have f1 : w3.cell? ⟨fb, 1, none⟩ = some (.int .i64 71) := hown3.cellAt 1 (by omega)
         clear hown3 hg3 hcap hbA)
      | (go_at_call 21; refine (order_nil _ _ _).mono ?_; rintro e w4 ⟨rfl, hb4⟩))
    have hbC : Below W.heap.size W w4 := hbB.trans (hb4.mono hbB.size)
    have e0 : w4.cell? ⟨fb, 0, none⟩ = some (.int .i64 (-71)) := (hb4.cell (p := ⟨fb, 0, none⟩) hgl3).trans f0
    have e1 : w4.cell? ⟨fb, 1, none⟩ = some (.int .i64 71) := (hb4.cell (p := ⟨fb, 1, none⟩) hgl3).trans f1
    clear f0 f1 hb4 hbB hgl3
    go_loopw [7, 8] (fun vo vi wr => vo = .bool true ∧ vi = .int .i64 0 ∧ wr = w4) (fun _ _ _ => 0)
    case atStart => exact ⟨rfl, rfl, by trivial⟩
    case round =>
      obtain ⟨rfl, rfl, rfl⟩ := hrel
      go_wp2_with (go_at_call 12; refine (num_any _ _).mono ?_; rintro e w' ⟨rfl, rfl⟩)
      have hbD := hbC.alloc hbC.size (.cells (madeCells #[.bool false] 0) 4)
      clear hbC e0 e1
      generalize wr.alloc (.cells (madeCells #[.bool false] 0) 4) = w5 at *
      go_loopw [11] (fun vi ww => vi = .int .i64 0 ∧ ww = w5) (fun _ _ => 0)
      case atStart => exact ⟨rfl, by trivial⟩
      case round =>
        obtain ⟨rfl, rfl⟩ := hrel
        go_wp2
        go_loopw [14] (fun vi ww => vi = .int .i64 0 ∧ ww = wr) (fun _ _ => 0)
        case atStart => exact ⟨rfl, by trivial⟩
        case round =>
          obtain ⟨rfl, rfl⟩ := hrel
          go_wp2_with (go_at_call 21; refine (order_nil _ _ _).mono ?_; rintro e w6 ⟨rfl, hb6⟩; have hbE := hbD.trans (hb6.mono hbD.size))
          go_loopw [17] (fun vi ww => vi = .int .i64 0 ∧ ww = w6) (fun _ _ => 0)
          case atStart => exact ⟨rfl, by trivial⟩
          case round =>
            obtain ⟨rfl, rfl⟩ := hrel
            go_wp2
            go_ret
            exact ⟨by simp, hbE⟩
end Go.Proofs.Ytbmgjbpcijbocaa.pointSorts
