/- The methods of point.row: Less, Len, Swap; the order that Less goes by. -/
import Derived.Test.YtbmgjbpcijbocaaRef
import Derived.Test.YtbmgjbpcijbocaaSrtH
import Derived.RegionTactic
namespace Go.Proofs.Ytbmgjbpcijbocaa
open Go.RowKit

theorem len_any (a : Option Addr) (n c : Nat) (w : World) : Calls Try.prog 68 #[.slice a n c] w fun e w' => e = .returned (.int .i64 n) ∧ w = w' := by
  go_enter Try.func68, Try.ntmps68
  go_wp2
  go_ret
  exact ⟨rfl, rfl⟩

set_option maxHeartbeats 2000000 in
theorem swap_any (blk n c : Nat) (W : World) (x y : Int) (i j : Nat) (hi : i < n) (hj : j < n) (_hsz : n < 4611686018427387904)
    (ci : W.cell? ⟨blk, i, none⟩ = some (.int .i64 x)) (cj : W.cell? ⟨blk, j, none⟩ = some (.int .i64 y)) (fi : W.frozen? ⟨blk, i, none⟩ = false) (fj : W.frozen? ⟨blk, j, none⟩ = false) :
    Calls Try.prog 71 #[.slice (some ⟨blk, 0, none⟩) n c, .int .i64 i, .int .i64 j] W fun e w' => e = .returned (.tuple #[]) ∧ ∃ q, w' = ((W.setCell ⟨blk, i, none⟩ (.int .i64 y)).setCell ⟨blk, j, none⟩ (.int .i64 x)).drewN q := by
  obtain ⟨v', hy'⟩ := cell?_setCell_some (w := W) (p := ⟨blk, i, none⟩) (x := .int .i64 y) (q := ⟨blk, j, none⟩) cj
  go_enter Try.func71, Try.ntmps71
  go_wp2
  go_region
  all_goals (try go_wp2)
  all_goals go_end0
  all_goals exact ⟨rfl, 1, rfl⟩

/-- What Less answers: by the order of two points, and, of one place, by their numbers. -/
def lessB (o : Int) (A B : Nat) : Bool := if o = 0 then decide (A < B) else decide (o < 0)

/-- What a region of Less leans on. -/
theorem held_less {W W1 w' : World} {blk pb i j x1 x2 x3 x4 : Nat} {s1 s2 a b v1 v2 v3 v4 : Value} (lb : blk < W.heap.size) (lp : pb < W.heap.size)
    (h1 : W1.cell? ⟨W.heap.size, 0, none⟩ = some s1) (h2 : W1.cell? ⟨W.heap.size, 1, none⟩ = some s2) (h3 : W1.cell? ⟨blk, i, none⟩ = some a) (h4 : W1.cell? ⟨blk, j, none⟩ = some b)
    (h5 : W1.cell? ⟨pb, x1, none⟩ = some v1) (h6 : W1.cell? ⟨pb, x2, none⟩ = some v2) (h7 : W1.cell? ⟨pb, x3, none⟩ = some v3) (h8 : W1.cell? ⟨pb, x4, none⟩ = some v4) (h9 : W.heap.size < W1.heap.size) (h10 : Below W.heap.size W W1) (hb : Below W1.heap.size W1 w') :
    w'.cell? ⟨W.heap.size, 0, none⟩ = some s1 ∧ w'.cell? ⟨W.heap.size, 1, none⟩ = some s2 ∧ w'.cell? ⟨blk, i, none⟩ = some a ∧ w'.cell? ⟨blk, j, none⟩ = some b ∧
    w'.cell? ⟨pb, x1, none⟩ = some v1 ∧ w'.cell? ⟨pb, x2, none⟩ = some v2 ∧ w'.cell? ⟨pb, x3, none⟩ = some v3 ∧ w'.cell? ⟨pb, x4, none⟩ = some v4 ∧ W.heap.size < w'.heap.size ∧ Below W.heap.size W w' := by
  have c := (bcell hb).1
  have hz := hb.size
  exact ⟨(c _ _ h9).trans h1, (c _ _ h9).trans h2, (c _ _ (by omega)).trans h3, (c _ _ (by omega)).trans h4, (c _ _ (by omega)).trans h5, (c _ _ (by omega)).trans h6, (c _ _ (by omega)).trans h7, (c _ _ (by omega)).trans h8, by omega, h10.trans (hb.mono (by omega))⟩

set_option maxHeartbeats 2000000 in
theorem less_core (blk pb po n c lc A B i j : Nat) (ax ay bx bY : Int) (W : World) (hi : i < n) (hj : j < n) (_hsz : n < 4611686018427387904) (hA : A < n) (hB : B < n)
    (ci : W.cell? ⟨blk, i, none⟩ = some (.int .i64 A)) (cj : W.cell? ⟨blk, j, none⟩ = some (.int .i64 B))
    (p1 : W.cell? ⟨pb, po + A * 2, none⟩ = some (.int .i64 ax)) (p2 : W.cell? ⟨pb, po + A * 2 + 1, none⟩ = some (.int .i64 ay)) (p3 : W.cell? ⟨pb, po + B * 2, none⟩ = some (.int .i64 bx)) (p4 : W.cell? ⟨pb, po + B * 2 + 1, none⟩ = some (.int .i64 bY)) :
    Calls Try.prog 72 #[.agg #[.slice (some ⟨blk, 0, none⟩) n c, .slice (some ⟨pb, po, none⟩) n lc], .int .i64 i, .int .i64 j] W (Ends W (.bool (lessB (ordW ax ay bx bY) A B))) := by
  have l1 := World.block_lt_of_cell? W _ ci
  have l2 := World.block_lt_of_cell? W _ p1
  have b0 := ((Below.refl W.heap.size W).alloc (Nat.le_refl _) (.cells #[.slice (some ⟨blk, 0, none⟩) n c, .slice (some ⟨pb, po, none⟩) n lc] 58)).drew
  have ho := fun w => order_any ax ay bx bY w
  have k1 : (i : Int) < (n : Int) := by omega
  have k2 : (j : Int) < (n : Int) := by omega
  have k3 : (A : Int) < (n : Int) := by omega
  have k4 : (B : Int) < (n : Int) := by omega
  have k5 : (0 : Int) ≤ (i : Int) := Int.natCast_nonneg _
  have k6 : (0 : Int) ≤ (j : Int) := Int.natCast_nonneg _
  have k7 : (0 : Int) ≤ (A : Int) := Int.natCast_nonneg _
  have k8 : (0 : Int) ≤ (B : Int) := Int.natCast_nonneg _
  generalize ordW ax ay bx bY = o at ho ⊢
  by_cases h0 : o = 0
  · have e : lessB o A B = decide (A < B) := by unfold lessB; rw [if_pos h0]
    rw [e]
    subst h0
    clear e
    go_enter Try.func72, Try.ntmps72
    go_wp2
    go_region_held3 (fun w' => w'.cell? ⟨W.heap.size, 0, none⟩ = some (.slice (some ⟨blk, 0, none⟩) n c) ∧ w'.cell? ⟨W.heap.size, 1, none⟩ = some (.slice (some ⟨pb, po, none⟩) n lc) ∧ w'.cell? ⟨blk, i, none⟩ = some (.int .i64 A) ∧ w'.cell? ⟨blk, j, none⟩ = some (.int .i64 B) ∧
        w'.cell? ⟨pb, po + A * 2, none⟩ = some (.int .i64 ax) ∧ w'.cell? ⟨pb, po + A * 2 + 1, none⟩ = some (.int .i64 ay) ∧ w'.cell? ⟨pb, po + B * 2, none⟩ = some (.int .i64 bx) ∧ w'.cell? ⟨pb, po + B * 2 + 1, none⟩ = some (.int .i64 bY) ∧ W.heap.size < w'.heap.size ∧ Below W.heap.size W w')
      (first | go_keep | (go_split_ands; exact held_less l1 l2 ‹_› ‹_› ‹_› ‹_› ‹_› ‹_› ‹_› ‹_› ‹_› ‹_› hb)) (first | (go_at_call 26; refine (ho _).mono ?_; rintro e w' ⟨rfl, hb⟩))
    go_split_ands
    go_wp2
    go_quiet (fail)
    go_wp2
    go_ret
    exact ⟨by simp, below_drewN ‹_› _⟩
  · have e : lessB o A B = decide (o < 0) := by unfold lessB; rw [if_neg h0]
    rw [e]
    have h1 : (o == 0) = false := by simpa using h0
    clear e h0
    go_enter Try.func72, Try.ntmps72
    go_wp2
    go_region_held3 (fun w' => w'.cell? ⟨W.heap.size, 0, none⟩ = some (.slice (some ⟨blk, 0, none⟩) n c) ∧ w'.cell? ⟨W.heap.size, 1, none⟩ = some (.slice (some ⟨pb, po, none⟩) n lc) ∧ w'.cell? ⟨blk, i, none⟩ = some (.int .i64 A) ∧ w'.cell? ⟨blk, j, none⟩ = some (.int .i64 B) ∧
        w'.cell? ⟨pb, po + A * 2, none⟩ = some (.int .i64 ax) ∧ w'.cell? ⟨pb, po + A * 2 + 1, none⟩ = some (.int .i64 ay) ∧ w'.cell? ⟨pb, po + B * 2, none⟩ = some (.int .i64 bx) ∧ w'.cell? ⟨pb, po + B * 2 + 1, none⟩ = some (.int .i64 bY) ∧ W.heap.size < w'.heap.size ∧ Below W.heap.size W w')
      (first | go_keep | (go_split_ands; exact held_less l1 l2 ‹_› ‹_› ‹_› ‹_› ‹_› ‹_› ‹_› ‹_› ‹_› ‹_› hb)) (first | (go_at_call 26; refine (ho _).mono ?_; rintro e w' ⟨rfl, hb⟩))
    go_split_ands
    go_wp2
    go_ret
    exact ⟨rfl, ‹_›⟩
end Go.Proofs.Ytbmgjbpcijbocaa
