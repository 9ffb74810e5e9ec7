/- Walks of the functions on points: Check, CheckSpace, both, order, Cmp, Same, Normal, and the reference's Finite, Cmp, Normal. -/
import Derived.Test.YtbmgjbpcijbocaaPrim
import Derived.Below
import Derived.Carry
import Derived.Deep.RegionHeld3
import Derived.Deep.RegionWith
namespace Go.Proofs.Ytbmgjbpcijbocaa
open Go.RowKit

theorem below_drewN {B : Nat} {a w : World} (h : Below B a w) (n : Nat) : Below B a (w.drewN n) := h.trans ⟨rfl, rfl, rfl, Nat.le_refl _, fun _ _ => rfl⟩
theorem bcell {W w1 : World} (hb : Below W.heap.size W w1) : (∀ b o, b < W.heap.size → w1.cell? ⟨b, o, none⟩ = W.cell? ⟨b, o, none⟩) ∧ (∀ b o, b < W.heap.size → w1.frozen? ⟨b, o, none⟩ = W.frozen? ⟨b, o, none⟩) :=
  ⟨fun b o h => hb.cell (p := ⟨b, o, none⟩) h, fun b o h => hb.frozen (p := ⟨b, o, none⟩) h⟩

/-- What Check answers. -/
def chk (x y : Int) : Int := if (fin x && fin y) = true then 0 else 10

theorem check_any (x y : Int) (w : World) : Calls Try.prog 16 #[.agg #[.int .i64 x, .int .i64 y]] w fun e w' => e = .returned (.int .i64 (chk x y)) ∧ Below w.heap.size w w' := by
  unfold chk
  cases hx : fin x with
  | false =>
    go_enter Try.func16, Try.ntmps16
    go_wp2_with (go_at_call 28; refine (finite_any _ _).mono ?_; rintro e w' ⟨rfl, n, rfl⟩)
    go_ret
    exact ⟨rfl, below_drewN ((Below.refl _ _).alloc (Nat.le_refl _) _) _⟩
  | true =>
    cases hy : fin y with
    | false =>
      go_enter Try.func16, Try.ntmps16
      go_wp2_with (go_at_call 28; refine (finite_any _ _).mono ?_; rintro e w' ⟨rfl, n, rfl⟩)
      go_ret
      exact ⟨rfl, below_drewN ((Below.refl _ _).alloc (Nat.le_refl _) _) _⟩
    | true =>
      go_enter Try.func16, Try.ntmps16
      go_wp2_with (go_at_call 28; refine (finite_any _ _).mono ?_; rintro e w' ⟨rfl, n, rfl⟩)
      go_ret
      exact ⟨rfl, below_drewN ((Below.refl _ _).alloc (Nat.le_refl _) _) _⟩

theorem checkspace_any (x y z : Int) (w : World) : Calls Try.prog 17 #[.agg #[.int .i64 x, .int .i64 y, .int .i64 z]] w fun e w' => e = .returned (.int .i64 (if (fin x && fin y && fin z) = true then 0 else 10)) ∧ Below w.heap.size w w' := by
  cases hx : fin x with
  | false =>
    go_enter Try.func17, Try.ntmps17
    go_wp2_with (go_at_call 28; refine (finite_any _ _).mono ?_; rintro e w' ⟨rfl, n, rfl⟩)
    go_ret
    exact ⟨rfl, below_drewN ((Below.refl _ _).alloc (Nat.le_refl _) _) _⟩
  | true =>
    cases hy : fin y with
    | false =>
      go_enter Try.func17, Try.ntmps17
      go_wp2_with (go_at_call 28; refine (finite_any _ _).mono ?_; rintro e w' ⟨rfl, n, rfl⟩)
      go_ret
      exact ⟨rfl, below_drewN ((Below.refl _ _).alloc (Nat.le_refl _) _) _⟩
    | true =>
      cases hz : fin z with
      | false =>
        go_enter Try.func17, Try.ntmps17
        go_wp2_with (go_at_call 28; refine (finite_any _ _).mono ?_; rintro e w' ⟨rfl, n, rfl⟩)
        go_ret
        exact ⟨rfl, below_drewN ((Below.refl _ _).alloc (Nat.le_refl _) _) _⟩
      | true =>
        go_enter Try.func17, Try.ntmps17
        go_wp2_with (go_at_call 28; refine (finite_any _ _).mono ?_; rintro e w' ⟨rfl, n, rfl⟩)
        go_ret
        exact ⟨rfl, below_drewN ((Below.refl _ _).alloc (Nat.le_refl _) _) _⟩


/-- What both answers. -/
def bothF (ax ay bx bY : Int) : Int := if chk ax ay < chk bx bY then chk bx bY else chk ax ay

/-- The end of a call that turns nothing of what was there. -/
def Ends (w : World) (v : Value) (e : Ending) (w' : World) : Prop := e = .returned v ∧ Below w.heap.size w w'

theorem two_step {w W w' : World} {p q r s : Value} (h1 : W.cell? ⟨w.heap.size, 0, none⟩ = some p) (h2 : W.cell? ⟨w.heap.size, 1, none⟩ = some q) (h3 : W.cell? ⟨w.heap.size + 1, 0, none⟩ = some r) (h4 : W.cell? ⟨w.heap.size + 1, 1, none⟩ = some s) (h5 : w.heap.size + 2 ≤ W.heap.size) (h6 : Below w.heap.size w W) (hb : Below W.heap.size W w') :
    w'.cell? ⟨w.heap.size, 0, none⟩ = some p ∧ w'.cell? ⟨w.heap.size, 1, none⟩ = some q ∧ w'.cell? ⟨w.heap.size + 1, 0, none⟩ = some r ∧ w'.cell? ⟨w.heap.size + 1, 1, none⟩ = some s ∧ w.heap.size + 2 ≤ w'.heap.size ∧ Below w.heap.size w w' := by
  have c := (bcell hb).1
  refine ⟨(c _ _ (by omega)).trans h1, (c _ _ (by omega)).trans h2, (c _ _ (by omega)).trans h3, (c _ _ (by omega)).trans h4, Nat.le_trans h5 hb.size, h6.trans (hb.mono (by omega))⟩

theorem below_two (w : World) (o o2 : Obj) : Below w.heap.size w ((w.alloc o).alloc o2) := ((Below.refl _ _).alloc (Nat.le_refl _) _).alloc (by simp) _

theorem both_any (ax ay bx bY : Int) (w : World) : Calls Try.prog 25 #[.agg #[.int .i64 ax, .int .i64 ay], .agg #[.int .i64 bx, .int .i64 bY]] w (Ends w (.int .i64 (bothF ax ay bx bY))) := by
  have b0 := (below_two w (.cells #[.int .i64 ax, .int .i64 ay] 25) (.cells #[.int .i64 bx, .int .i64 bY] 25)).drew
  go_enter Try.func25, Try.ntmps25
  go_wp2
  go_region_held3 (fun w' => w'.cell? ⟨w.heap.size, 0, none⟩ = some (.int .i64 ax) ∧ w'.cell? ⟨w.heap.size, 1, none⟩ = some (.int .i64 ay) ∧ w'.cell? ⟨w.heap.size + 1, 0, none⟩ = some (.int .i64 bx) ∧ w'.cell? ⟨w.heap.size + 1, 1, none⟩ = some (.int .i64 bY) ∧ w.heap.size + 2 ≤ w'.heap.size ∧ Below w.heap.size w w')
    (first | go_keep | (go_split_ands; exact two_step ‹_› ‹_› ‹_› ‹_› ‹_› ‹_› hb)) (first | (go_at_call 16; refine (check_any _ _ _).mono ?_; rintro e w' ⟨rfl, hb⟩))
  rw [show (if chk ax ay < chk bx bY then chk bx bY else chk ax ay) = bothF ax ay bx bY from rfl]
  go_split_ands
  go_wp2
  go_ret
  exact ⟨rfl, ‹_›⟩

/-- A call that leaves the world alone, within a region that has drawn a times before: n draws on. -/
theorem quiet2 {P : Program} {f : FuncId} {args : Array Value} {w : World} {a n : Nat} {v : Value} (h : ∀ W : World, Calls P f args W fun e w' => e = .returned v ∧ W = w') :
    Calls P f args (w.drewN (a + n)) fun e w'' => e = .returned v ∧ ∃ m, w'' = w.drewN (a + m) :=
  (h _).mono fun _ _ ⟨he, hm⟩ => ⟨he, n, hm.symm⟩
theorem quiet1 {P : Program} {f : FuncId} {args : Array Value} {w : World} {n : Nat} {v : Value} (h : ∀ W : World, Calls P f args W fun e w' => e = .returned v ∧ W = w') :
    Calls P f args (w.drewN n) fun e w'' => e = .returned v ∧ ∃ m, w'' = w.drewN m :=
  (h _).mono fun _ _ ⟨he, hm⟩ => ⟨he, n, hm.symm⟩

/-- The order of two points, by the words of their coordinates. -/
def ordW (ax ay bx bY : Int) : Int := if wayF (wd ax) (wd bx) = 0 then wayF (wd ay) (wd bY) else wayF (wd ax) (wd bx)

set_option maxHeartbeats 400000 in
theorem order_any (ax ay bx bY : Int) (w : World) : Calls Try.prog 26 #[.agg #[.int .i64 ax, .int .i64 ay], .agg #[.int .i64 bx, .int .i64 bY]] w (Ends w (.int .i64 (ordW ax ay bx bY))) := by
  have b0 := below_two w (.cells #[.int .i64 ax, .int .i64 ay] 25) (.cells #[.int .i64 bx, .int .i64 bY] 25)
  unfold ordW
  by_cases h : wayF (wd ax) (wd bx) = 0
  · rw [if_pos h]
    have h2 : (wayF (wd ax) (wd bx) != 0) = false := by rw [h]; rfl
    clear h
    go_enter Try.func26, Try.ntmps26
    go_wp2
    go_quiet (first | (go_at_call 23; exact quiet1 (value_any _)) | (go_at_call 33; exact quiet1 (way_any _ _)))
    go_wp2
    go_quiet (first | (go_at_call 23; exact quiet2 (value_any _)) | (go_at_call 33; exact quiet2 (way_any _ _)))
    go_wp2
    go_ret
    exact ⟨rfl, below_drewN (below_drewN b0 _) _⟩
  · rw [if_neg h]
    have h2 : (wayF (wd ax) (wd bx) != 0) = true := by simpa using h
    clear h
    go_enter Try.func26, Try.ntmps26
    go_wp2
    go_quiet (first | (go_at_call 23; exact quiet1 (value_any _)) | (go_at_call 33; exact quiet1 (way_any _ _)))
    go_wp2
    go_ret
    exact ⟨rfl, below_drewN b0 _⟩

/-- Cmp: of two points that are some, and else. -/
theorem cmp_yes (ax ay bx bY : Int) (w : World) (h : bothF ax ay bx bY = 0) : Calls Try.prog 11 #[.agg #[.int .i64 ax, .int .i64 ay], .agg #[.int .i64 bx, .int .i64 bY]] w (Ends w (.tuple #[.int .i64 (ordW ax ay bx bY), .int .i64 0])) := by
  have b0 := below_two w (.cells #[.int .i64 ax, .int .i64 ay] 25) (.cells #[.int .i64 bx, .int .i64 bY] 25)
  have hb := fun w => both_any ax ay bx bY w
  rw [h] at hb
  clear h
  go_enter Try.func11, Try.ntmps11
  go_wp2_with (first | (go_at_call 25; refine (hb _).mono ?_; rintro e w' ⟨rfl, hb1⟩; obtain ⟨hc1, hf1⟩ := bcell hb1; have hz1 := hb1.size; simp at hz1) | (go_at_call 26; refine (order_any _ _ _ _ _).mono ?_; rintro e w' ⟨rfl, hb2⟩))
  go_ret2
  exact ⟨rfl, b0.trans ((hb1.mono (by simp; omega)).trans (hb2.mono (by omega)))⟩

theorem cmp_no (ax ay bx bY : Int) (w : World) (h : bothF ax ay bx bY = 10) : Calls Try.prog 11 #[.agg #[.int .i64 ax, .int .i64 ay], .agg #[.int .i64 bx, .int .i64 bY]] w (Ends w (.tuple #[.int .i64 0, .int .i64 10])) := by
  have b0 := below_two w (.cells #[.int .i64 ax, .int .i64 ay] 25) (.cells #[.int .i64 bx, .int .i64 bY] 25)
  have hb := fun w => both_any ax ay bx bY w
  rw [h] at hb
  clear h
  go_enter Try.func11, Try.ntmps11
  go_wp2_with (go_at_call 25; refine (hb _).mono ?_; rintro e w' ⟨rfl, hb1⟩)
  go_ret2
  exact ⟨rfl, b0.trans (hb1.mono (by simp; omega))⟩

theorem bothF_or (ax ay bx bY : Int) : bothF ax ay bx bY = 0 ∧ (fin ax = true ∧ fin ay = true) ∧ (fin bx = true ∧ fin bY = true) ∨ bothF ax ay bx bY = 10 ∧ ¬ ((fin ax = true ∧ fin ay = true) ∧ (fin bx = true ∧ fin bY = true)) := by
  unfold bothF chk
  cases fin ax <;> cases fin ay <;> cases fin bx <;> cases fin bY <;> simp

theorem same_no (ax ay bx bY : Int) (w : World) (h : bothF ax ay bx bY = 10) : Calls Try.prog 13 #[.agg #[.int .i64 ax, .int .i64 ay], .agg #[.int .i64 bx, .int .i64 bY]] w (Ends w (.tuple #[.bool false, .int .i64 10])) := by
  have b0 := below_two w (.cells #[.int .i64 ax, .int .i64 ay] 25) (.cells #[.int .i64 bx, .int .i64 bY] 25)
  have hb := fun w => both_any ax ay bx bY w
  rw [h] at hb
  clear h
  go_enter Try.func13, Try.ntmps13
  go_wp2_with (go_at_call 25; refine (hb _).mono ?_; rintro e w' ⟨rfl, hb1⟩)
  go_ret2
  exact ⟨rfl, b0.trans (hb1.mono (by simp; omega))⟩

/-- Two words of one value. -/
def eqW (x y : Nat) : Bool := FloatKind.f64.format.order x y == some .eq

set_option maxHeartbeats 400000 in
theorem same_yes (ax ay bx bY : Int) (w : World) (h : bothF ax ay bx bY = 0) : Calls Try.prog 13 #[.agg #[.int .i64 ax, .int .i64 ay], .agg #[.int .i64 bx, .int .i64 bY]] w (Ends w (.tuple #[.bool (eqW (wd ax) (wd bx) && eqW (wd ay) (wd bY)), .int .i64 0])) := by
  have b0 := below_two w (.cells #[.int .i64 ax, .int .i64 ay] 25) (.cells #[.int .i64 bx, .int .i64 bY] 25)
  have hb := fun w => both_any ax ay bx bY w
  rw [h] at hb
  clear h
  unfold eqW
  cases hx : (FloatKind.f64.format.order (wd ax) (wd bx) == some .eq) with
  | false =>
    go_enter Try.func13, Try.ntmps13
    go_wp2_with (go_at_call 25; refine (hb _).mono ?_; rintro e w1 ⟨rfl, hb1⟩; obtain ⟨hc1, hf1⟩ := bcell hb1; have hz1 := hb1.size; simp at hz1)
    go_quiet ((go_at_call 23; exact quiet1 (value_any _)))
    go_wp2
    go_ret2
    exact ⟨rfl, below_drewN (b0.trans (hb1.mono (by simp; omega))) _⟩
  | true =>
    go_enter Try.func13, Try.ntmps13
    go_wp2_with (go_at_call 25; refine (hb _).mono ?_; rintro e w1 ⟨rfl, hb1⟩; obtain ⟨hc1, hf1⟩ := bcell hb1; have hz1 := hb1.size; simp at hz1)
    go_quiet ((go_at_call 23; exact quiet1 (value_any _)))
    go_wp2
    go_ret2
    exact ⟨by simp, below_drewN (b0.trans (hb1.mono (by simp; omega))) _⟩

theorem finite_ref (x y : Int) (w : World) (hx1 : -9223372036854775808 ≤ x) (hx2 : x ≤ 9223372036854775807) (hy1 : -9223372036854775808 ≤ y) (hy2 : y ≤ 9223372036854775807) : Calls Try.prog 14 #[.agg #[.int .i64 x, .int .i64 y]] w (Ends w (.bool (fin x && fin y))) := by
  have b0 := (Below.refl w.heap.size w).alloc (Nat.le_refl _) (.cells #[.int .i64 x, .int .i64 y] 25)
  have cx := fun w => coord_any x w hx1 hx2
  have cy := fun w => coord_any y w hy1 hy2
  clear hx1 hx2 hy1 hy2
  cases hx : fin x with
  | false =>
    rw [hx] at cx
    go_enter Try.func14, Try.ntmps14
    go_wp2_with (first | (go_at_call 19; (with_reducible refine (cx _).mono ?_); rintro e w' ⟨rfl, rfl⟩) | (go_at_call 19; (with_reducible refine (cy _).mono ?_); rintro e w' ⟨rfl, rfl⟩))
    go_ret
    exact ⟨rfl, b0⟩
  | true =>
    rw [hx] at cx
    go_enter Try.func14, Try.ntmps14
    go_wp2_with (first | (go_at_call 19; (with_reducible refine (cx _).mono ?_); rintro e w' ⟨rfl, rfl⟩) | (go_at_call 19; (with_reducible refine (cy _).mono ?_); rintro e w' ⟨rfl, rfl⟩))
    go_ret
    exact ⟨rfl, b0⟩
end Go.Proofs.Ytbmgjbpcijbocaa
