/- The law PointChecks is proved: of every point and place, Check, CheckSpace and Normal answer as the reference says. No condition. -/
import Derived.Test.YtbmgjbpcijbocaaRows
import Derived.Test.YtbmgjbpcijbocaaRef
import Derived.WalkKit
import Derived.ProofKit
import Derived.OpenShut
import Derived.Lib.SmallJoins
namespace Go.Proofs.Ytbmgjbpcijbocaa.pointChecks
open Go.ChangeShapes Go.WideShapes Go.ChangeAt Go.RowKit Go.Joins

theorem own : ownKnob Try.prog.godebug = none := by kernel_rfl
theorem cells25 : Try.prog.cellsOf 25 = 2 := by kernel_rfl

theorem bounds {b : Int} (h : (Lit.int .i64 b).wf = true) : In64 b := by
  simp [Lit.wf, IntKind.min, IntKind.max, IntKind.bits, IntKind.signed] at h
  exact ⟨by omega, by omega⟩

theorem build39 (a b c : Int) (w : World) : (Instr.build 39 #[(0, .int .i64 a), (1, .int .i64 b), (2, .int .i64 c)]).run Try.prog w = .ok (.agg #[.int .i64 a, .int .i64 b, .int .i64 c]) w := run_build w 39 _ _ (by kernel_rfl)

theorem eq25 (a b c d : Int) (w : World) : (Op.equalIn 10000 25 (.agg #[.int .i64 a, .int .i64 b]) (.agg #[.int .i64 c, .int .i64 d])).run Try.prog w = .ok (a == c && b == d) w := by
  have u3 := Try.underlying3
  have hS : Try.prog.underlying 25 = some (.struct (Try.prog.fieldsOf 25)) := by kernel_rfl
  have hp : Try.prog.stoodInHeld 25 = false := by kernel_rfl
  rw [show (10000 : Nat) = 9999 + 1 from rfl, run_equalIn_agg w 9999 25 _ _ hS hp]
  simp only [Program.fieldsOf, Try.underlying25]
  go_simp
  by_cases h1 : a = c <;> by_cases h2 : b = d <;> simp [h1, h2]

theorem below_box (w w1 : World) (o : Obj) (o2 : Obj) (u v : Value) (i j : Nat) (hb : Below ((w.alloc o).alloc o2).heap.size ((w.alloc o).alloc o2) w1) : Below w.heap.size w ((w1.setCell ⟨w.heap.size + 1, i, none⟩ u).setCell ⟨w.heap.size + 1, j, none⟩ v) :=
  (((below_two w o o2).trans (hb.mono (by simp; omega))).setCell (by simp) _).setCell (by simp) _

theorem normal_no (x y : Int) (w : World) (h : chk x y = 10) : Calls Try.prog 18 #[.agg #[.int .i64 x, .int .i64 y]] w (Ends w (.tuple #[.agg #[.int .i64 0, .int .i64 0], .int .i64 10])) := by
  have hc := fun w => check_any x y w
  rw [h] at hc
  clear h
  have b1 := build25n
  go_enter Try.func18, Try.ntmps18
  go_wp2_with (go_at_call 16; refine (hc _).mono ?_; rintro e w1 ⟨rfl, hb⟩; obtain ⟨hc1, hf1⟩ := bcell hb; have hz1 := hb.size; simp at hz1)
  exact bodyPost_ret (v := .tuple #[.agg #[.int .i64 0, .int .i64 0], .int .i64 10]) (by simp [results, Try.results18, go_sem, hc1]) rfl ⟨rfl, below_box _ _ _ _ _ _ _ _ hb⟩

theorem normal_yes (x y : Int) (w : World) (hx : In64 x) (hy : In64 y) (fx : fin x = true) (fy : fin y = true) : Calls Try.prog 18 #[.agg #[.int .i64 x, .int .i64 y]] w (Ends w (.tuple #[.agg #[.int .i64 (zeroF x), .int .i64 (zeroF y)], .int .i64 0])) := by
  have hc := fun w => check_any x y w
  rw [show chk x y = 0 by unfold chk; rw [fx, fy]; rfl] at hc
  have nx := fun w => normal_any x w hx.1 hx.2 fx
  have ny := fun w => normal_any y w hy.1 hy.2 fy
  clear hx hy fx fy
  have b1 := build25
  go_enter Try.func18, Try.ntmps18
  go_wp2_with (go_at_call 16; refine (hc _).mono ?_; rintro e w1 ⟨rfl, hb⟩; obtain ⟨hc1, hf1⟩ := bcell hb; have hz1 := hb.size; simp at hz1)
  have k1 : w1.cell? ⟨w.heap.size, 0, none⟩ = some (.int .i64 x) := (hc1 _ _ (by simp; omega)).trans (by go_simp)
  have k2 : w1.cell? ⟨w.heap.size, 1, none⟩ = some (.int .i64 y) := (hc1 _ _ (by simp; omega)).trans (by go_simp)
  have k3 : w1.cell? ⟨w.heap.size + 1, 0, none⟩ = some (.int .i64 0) := (hc1 _ _ (by simp)).trans (by go_simp)
  have k4 : w1.cell? ⟨w.heap.size + 1, 1, none⟩ = some (.int .i64 0) := (hc1 _ _ (by simp)).trans (by go_simp)
  have k5 : w1.frozen? ⟨w.heap.size + 1, 0, none⟩ = false := (hf1 _ _ (by simp)).trans (by go_simp)
  have k6 : w1.frozen? ⟨w.heap.size + 1, 1, none⟩ = false := (hf1 _ _ (by simp)).trans (by go_simp)
  clear hc1 hf1 hz1
  go_region_held3 (fun w' => w'.cell? ⟨w.heap.size, 0, none⟩ = some (.int .i64 x) ∧ w'.cell? ⟨w.heap.size, 1, none⟩ = some (.int .i64 y)) (go_keep)
    (first | (go_at_call 29; (with_reducible refine (nx _).mono ?_); rintro e w' ⟨rfl, rfl⟩) | (go_at_call 29; (with_reducible refine (ny _).mono ?_); rintro e w' ⟨rfl, rfl⟩))
  go_wp2
  exact bodyPost_ret (v := .tuple #[.agg #[.int .i64 (zeroF x), .int .i64 (zeroF y)], .int .i64 0]) (by simp [results, Try.results18, go_sem, k3, k4]) rfl ⟨rfl, (below_box _ _ _ _ _ _ _ _ hb).drew⟩

theorem refnormal (x y : Int) (w : World) : Calls Try.prog 20 #[.agg #[.int .i64 x, .int .i64 y]] w (Ends w (.agg #[.int .i64 (zeroF x), .int .i64 (zeroF y)])) := by
  have nx := fun w => zero_any x w
  have ny := fun w => zero_any y w
  have b1 := build25
  go_enter Try.func20, Try.ntmps20
  go_wp2
  go_region_held3 (fun w' => w'.cell? ⟨w.heap.size, 0, none⟩ = some (.int .i64 x) ∧ w'.cell? ⟨w.heap.size, 1, none⟩ = some (.int .i64 y)) (go_keep)
    (first | (go_at_call 24; (with_reducible refine (nx _).mono ?_); rintro e w' ⟨rfl, rfl⟩) | (go_at_call 24; (with_reducible refine (ny _).mono ?_); rintro e w' ⟨rfl, rfl⟩))
  go_wp2
  exact bodyPost_ret (v := .agg #[.int .i64 (zeroF x), .int .i64 (zeroF y)]) (by simp [results, Try.results20, go_sem]) rfl ⟨rfl, (below_two _ _ _).drew⟩

/-- The box of a point, and that nothing of what was there has turned. -/
def Boxed1 (w : World) (p q : Value) (w' : World) : Prop :=
  w'.cell? ⟨w.heap.size, 0, none⟩ = some p ∧ w'.cell? ⟨w.heap.size, 1, none⟩ = some q ∧ w.heap.size < w'.heap.size ∧ Below w.heap.size w w'

theorem Boxed1.start (w : World) (p q : Value) (i : TypeId) : Boxed1 w p q (w.alloc (.cells #[p, q] i)) := by
  refine ⟨?_, ?_, ?_, (Below.refl _ _).alloc (Nat.le_refl _) _⟩ <;> go_simp

theorem Boxed1.step {w W w' : World} {p q : Value} (h : Boxed1 w p q W) (hb : Below W.heap.size W w') : Boxed1 w p q w' := by
  obtain ⟨h1, h2, h3, h4⟩ := h
  have c := (bcell hb).1
  exact ⟨(c _ _ (by omega)).trans h1, (c _ _ (by omega)).trans h2, Nat.lt_of_lt_of_le h3 hb.size, h4.trans (hb.mono (by omega))⟩

theorem Boxed1.more {w W w' : World} {p q u v : Value} {i : TypeId} (h : Boxed1 w p q W) (hb : Below (W.alloc (.cells #[u, v] i)).heap.size (W.alloc (.cells #[u, v] i)) w') :
    Boxed1 w p q w' ∧ w'.cell? ⟨W.heap.size, 0, none⟩ = some u ∧ w'.cell? ⟨W.heap.size, 1, none⟩ = some v ∧ W.heap.size < w'.heap.size := by
  have h1 : Boxed1 w p q (W.alloc (.cells #[u, v] i)) := h.step ((Below.refl _ _).alloc (Nat.le_refl _) _)
  have c := (bcell hb).1
  have hz := hb.size
  simp at hz
  exact ⟨h1.step hb, (c _ _ (by simp)).trans (by go_simp), (c _ _ (by simp)).trans (by go_simp), hz⟩

set_option maxHeartbeats 2000000 in
theorem no_core (x y z : Int) (p : Bool) (w : World) (hx : ∀ w, Calls Try.prog 16 #[.agg #[.int .i64 x, .int .i64 y]] w (Ends w (.int .i64 10))) (hs : ∀ w, Calls Try.prog 17 #[.agg #[.int .i64 x, .int .i64 y, .int .i64 z]] w (Ends w (.int .i64 10)))
    (hn : ∀ w, Calls Try.prog 18 #[.agg #[.int .i64 x, .int .i64 y]] w (Ends w (.tuple #[.agg #[.int .i64 0, .int .i64 0], .int .i64 10]))) (hf : ∀ w, Calls Try.prog 14 #[.agg #[.int .i64 x, .int .i64 y]] w (Ends w (.bool false)))
    (hz : ∀ w, Calls Try.prog 19 #[.int .i64 z] w fun e w' => e = .returned (.bool p) ∧ w = w') :
    Calls Try.prog 6 #[.agg #[.int .i64 x, .int .i64 y], .int .i64 z] w (Ends w (.bool true)) := by
  have S := Boxed1.start w (.int .i64 x) (.int .i64 y) 25
  have ha := alive_any
  have b1 := build25n
  have b2 := build39
  have q1 := eq25
  go_enter Try.func6, Try.ntmps6
  go_wp2_with (first
    | (go_at_call 8; refine (ha _).mono ?_; rintro e w1 ⟨rfl, hb⟩; (have S1 := S.step hb); clear S hb; have S := S1; obtain ⟨c1, c2, cz, -⟩ := S1)
    | (go_at_call 16; refine (hx _).mono ?_; rintro e w1 ⟨rfl, hb⟩; (have S1 := S.step hb); clear S hb c1 c2 cz; have S := S1; obtain ⟨c1, c2, cz, -⟩ := S1)
    | (go_at_call 17; refine (hs _).mono ?_; rintro e w1 ⟨rfl, hb⟩; (have S1 := S.step hb); clear S hb c1 c2 cz; have S := S1; obtain ⟨c1, c2, cz, -⟩ := S1)
    | (go_at_call 18; refine (hn _).mono ?_; rintro e w1 ⟨rfl, hb⟩; (have S1 := S.step hb); clear S hb c1 c2 cz; have S := S1; obtain ⟨c1, c2, cz, -⟩ := S1)
    | (go_at_call 14; refine (hf _).mono ?_; rintro e w2 ⟨rfl, hb⟩; (have S1 := S.more hb); clear S hb c1 c2 cz; obtain ⟨S, d1, d2, hz2⟩ := S1; obtain ⟨c1, c2, cz, -⟩ := id S)
    | (go_at_call 19; refine (hz _).mono ?_; rintro e w' ⟨rfl, rfl⟩)
    | (go_at_call 12; refine (num_any _ _).mono ?_; rintro e w' ⟨rfl, rfl⟩))
  go_ret
  exact ⟨rfl, S.2.2.2⟩

theorem held4 {w W w' : World} {B : Nat} {p q r s : Value} (h1 : W.cell? ⟨w.heap.size, 0, none⟩ = some p) (h2 : W.cell? ⟨w.heap.size, 1, none⟩ = some q) (h3 : W.cell? ⟨B, 0, none⟩ = some r) (h4 : W.cell? ⟨B, 1, none⟩ = some s) (h5 : w.heap.size < W.heap.size) (h6 : B < W.heap.size) (h7 : Below w.heap.size w W) (hb : Below W.heap.size W w') :
    w'.cell? ⟨w.heap.size, 0, none⟩ = some p ∧ w'.cell? ⟨w.heap.size, 1, none⟩ = some q ∧ w'.cell? ⟨B, 0, none⟩ = some r ∧ w'.cell? ⟨B, 1, none⟩ = some s ∧ w.heap.size < w'.heap.size ∧ B < w'.heap.size ∧ Below w.heap.size w w' := by
  have c := (bcell hb).1
  have hz := hb.size
  exact ⟨(c _ _ h5).trans h1, (c _ _ h5).trans h2, (c _ _ h6).trans h3, (c _ _ h6).trans h4, by omega, by omega, h7.trans (hb.mono (by omega))⟩

set_option maxHeartbeats 4000000 in
theorem yes_true (x y z zx zy : Int) (w : World) (hx : ∀ w, Calls Try.prog 16 #[.agg #[.int .i64 x, .int .i64 y]] w (Ends w (.int .i64 0))) (hs : ∀ w, Calls Try.prog 17 #[.agg #[.int .i64 x, .int .i64 y, .int .i64 z]] w (Ends w (.int .i64 0)))
    (hn : ∀ w, Calls Try.prog 18 #[.agg #[.int .i64 x, .int .i64 y]] w (Ends w (.tuple #[.agg #[.int .i64 zx, .int .i64 zy], .int .i64 0]))) (hf : ∀ w, Calls Try.prog 14 #[.agg #[.int .i64 x, .int .i64 y]] w (Ends w (.bool true)))
    (hz : ∀ w, Calls Try.prog 19 #[.int .i64 z] w fun e w' => e = .returned (.bool true) ∧ w = w') (hr : ∀ w, Calls Try.prog 20 #[.agg #[.int .i64 x, .int .i64 y]] w (Ends w (.agg #[.int .i64 zx, .int .i64 zy]))) :
    Calls Try.prog 6 #[.agg #[.int .i64 x, .int .i64 y], .int .i64 z] w (Ends w (.bool true)) := by
  have S := Boxed1.start w (.int .i64 x) (.int .i64 y) 25
  have ha := alive_any
  have b2 := build39
  have q1 := eq25
  go_enter Try.func6, Try.ntmps6
  go_wp2_with (first
    | (go_at_call 8; refine (ha _).mono ?_; rintro e w1 ⟨rfl, hb⟩; (have S1 := S.step hb); clear S hb; have S := S1; obtain ⟨c1, c2, cz, -⟩ := S1)
    | (go_at_call 16; refine (hx _).mono ?_; rintro e w1 ⟨rfl, hb⟩; (have S1 := S.step hb); clear S hb c1 c2 cz; have S := S1; obtain ⟨c1, c2, cz, -⟩ := S1)
    | (go_at_call 17; refine (hs _).mono ?_; rintro e w1 ⟨rfl, hb⟩; (have S1 := S.step hb); clear S hb c1 c2 cz; have S := S1; obtain ⟨c1, c2, cz, -⟩ := S1)
    | (go_at_call 18; refine (hn _).mono ?_; rintro e w1 ⟨rfl, hb⟩; (have S1 := S.step hb); clear S hb c1 c2 cz; have S := S1; obtain ⟨c1, c2, cz, -⟩ := S1)
    | (go_at_call 14; refine (hf _).mono ?_; rintro e w2 ⟨rfl, hb⟩; (have S1 := S.more hb); clear S hb c1 c2 cz; obtain ⟨S, d1, d2, hz2⟩ := S1; obtain ⟨c1, c2, cz, -⟩ := id S)
    | (go_at_call 19; refine (hz _).mono ?_; rintro e w' ⟨rfl, rfl⟩)
    | (go_at_call 12; refine (num_any _ _).mono ?_; rintro e w' ⟨rfl, rfl⟩))
  have b0 := S.2.2.2.drew
  go_region_held3 (fun w' => w'.cell? ⟨w.heap.size, 0, none⟩ = some (.int .i64 x) ∧ w'.cell? ⟨w.heap.size, 1, none⟩ = some (.int .i64 y) ∧ w'.cell? ⟨w1.heap.size, 0, none⟩ = some (.int .i64 zx) ∧ w'.cell? ⟨w1.heap.size, 1, none⟩ = some (.int .i64 zy) ∧ w.heap.size < w'.heap.size ∧ w1.heap.size < w'.heap.size ∧ Below w.heap.size w w')
    (first | go_keep | (go_split_ands; exact held4 ‹_› ‹_› ‹_› ‹_› ‹_› ‹_› ‹_› hb)) (first | (go_at_call 12; refine (num_any _ _).mono ?_; rintro e w' ⟨rfl, rfl⟩) | (go_at_call 20; refine (hr _).mono ?_; rintro e w3 ⟨rfl, hb⟩))
  go_split_ands
  go_wp2
  go_ret
  exact ⟨by simp, ‹_›⟩

set_option maxHeartbeats 4000000 in
theorem yes_false (x y z zx zy : Int) (w : World) (hx : ∀ w, Calls Try.prog 16 #[.agg #[.int .i64 x, .int .i64 y]] w (Ends w (.int .i64 0))) (hs : ∀ w, Calls Try.prog 17 #[.agg #[.int .i64 x, .int .i64 y, .int .i64 z]] w (Ends w (.int .i64 10)))
    (hn : ∀ w, Calls Try.prog 18 #[.agg #[.int .i64 x, .int .i64 y]] w (Ends w (.tuple #[.agg #[.int .i64 zx, .int .i64 zy], .int .i64 0]))) (hf : ∀ w, Calls Try.prog 14 #[.agg #[.int .i64 x, .int .i64 y]] w (Ends w (.bool true)))
    (hz : ∀ w, Calls Try.prog 19 #[.int .i64 z] w fun e w' => e = .returned (.bool false) ∧ w = w') (hr : ∀ w, Calls Try.prog 20 #[.agg #[.int .i64 x, .int .i64 y]] w (Ends w (.agg #[.int .i64 zx, .int .i64 zy]))) :
    Calls Try.prog 6 #[.agg #[.int .i64 x, .int .i64 y], .int .i64 z] w (Ends w (.bool true)) := by
  have S := Boxed1.start w (.int .i64 x) (.int .i64 y) 25
  have ha := alive_any
  have b2 := build39
  have q1 := eq25
  go_enter Try.func6, Try.ntmps6
  go_wp2_with (first
    | (go_at_call 8; refine (ha _).mono ?_; rintro e w1 ⟨rfl, hb⟩; (have S1 := S.step hb); clear S hb; have S := S1; obtain ⟨c1, c2, cz, -⟩ := S1)
    | (go_at_call 16; refine (hx _).mono ?_; rintro e w1 ⟨rfl, hb⟩; (have S1 := S.step hb); clear S hb c1 c2 cz; have S := S1; obtain ⟨c1, c2, cz, -⟩ := S1)
    | (go_at_call 17; refine (hs _).mono ?_; rintro e w1 ⟨rfl, hb⟩; (have S1 := S.step hb); clear S hb c1 c2 cz; have S := S1; obtain ⟨c1, c2, cz, -⟩ := S1)
    | (go_at_call 18; refine (hn _).mono ?_; rintro e w1 ⟨rfl, hb⟩; (have S1 := S.step hb); clear S hb c1 c2 cz; have S := S1; obtain ⟨c1, c2, cz, -⟩ := S1)
    | (go_at_call 14; refine (hf _).mono ?_; rintro e w2 ⟨rfl, hb⟩; (have S1 := S.more hb); clear S hb c1 c2 cz; obtain ⟨S, d1, d2, hz2⟩ := S1; obtain ⟨c1, c2, cz, -⟩ := id S)
    | (go_at_call 19; refine (hz _).mono ?_; rintro e w' ⟨rfl, rfl⟩)
    | (go_at_call 12; refine (num_any _ _).mono ?_; rintro e w' ⟨rfl, rfl⟩))
  have b0 := S.2.2.2.drew
  go_region_held3 (fun w' => w'.cell? ⟨w.heap.size, 0, none⟩ = some (.int .i64 x) ∧ w'.cell? ⟨w.heap.size, 1, none⟩ = some (.int .i64 y) ∧ w'.cell? ⟨w1.heap.size, 0, none⟩ = some (.int .i64 zx) ∧ w'.cell? ⟨w1.heap.size, 1, none⟩ = some (.int .i64 zy) ∧ w.heap.size < w'.heap.size ∧ w1.heap.size < w'.heap.size ∧ Below w.heap.size w w')
    (first | go_keep | (go_split_ands; exact held4 ‹_› ‹_› ‹_› ‹_› ‹_› ‹_› ‹_› hb)) (first | (go_at_call 12; refine (num_any _ _).mono ?_; rintro e w' ⟨rfl, rfl⟩) | (go_at_call 20; refine (hr _).mono ?_; rintro e w3 ⟨rfl, hb⟩))
  go_split_ands
  go_wp2
  go_ret
  exact ⟨by simp, ‹_›⟩

theorem walk (x y z : Int) (h1 : In64 x) (h2 : In64 y) (h3 : In64 z) (w : World) : Calls Try.prog 6 #[.agg #[.int .i64 x, .int .i64 y], .int .i64 z] w (Ends w (.bool true)) := by
  have hx := fun w => check_any x y w
  have hs := fun w => checkspace_any x y z w
  have hf := fun w => finite_ref x y w h1.1 h1.2 h2.1 h2.2
  have hz := fun w => coord_any z w h3.1 h3.2
  unfold chk at hx
  by_cases hxy : fin x = true ∧ fin y = true
  · obtain ⟨fx, fy⟩ := hxy
    have hn := fun w => normal_yes x y w h1 h2 fx fy
    have hr := fun w => refnormal x y w
    rw [fx, fy] at hx hs hf
    cases fz : fin z with
    | true =>
      rw [fz] at hs hz
      exact yes_true x y z _ _ w hx hs hn hf hz hr
    | false =>
      rw [fz] at hs hz
      exact yes_false x y z _ _ w hx hs hn hf hz hr
  · have e : (fin x && fin y) = false := by
      cases e1 : fin x <;> cases e2 : fin y <;> simp_all
    have hc : chk x y = 10 := by unfold chk; rw [e]; rfl
    have hn := fun w => normal_no x y w hc
    rw [e] at hx hs hf
    exact no_core x y z _ w hx hs hn hf hz

set_option maxRecDepth 100000 in
theorem lifted (os : Os) (started : os.Started) (H : Type) (enc : TypeId × Value → H) :
    ReturnsInHanded {} Try.checked os 6 .any (Rows.pointChecksSpec.pre6 enc Try.prog Try.f6 Rows.pointChecksRow.domain false) (Rows.pointChecksSpec.post enc Try.prog Try.f6 false true false false) := by
  refine returnsInHanded_of_change (C := Try.checked) own started (by kernel_rfl) Try.func6
    (ChangeSpec.witness6 (enc := enc) (C := Try.checked) false ⟨#[], #[.agg #[.int .i64 0, .int .i64 0], .int .i64 0], []⟩ 8 (by kernel_rfl) (by kernel_rfl) (by kernel_rfl) (by kernel_rfl)) ?_
  intro W base args ds gs before hval0 hW _ _
  have hval : ∀ (j : Nat) t v, Try.f6.params[j]? = some t → args[j]? = some v → Value.okWide Try.prog W .any base t v := hval0
  have hW' := hW
  obtain ⟨p, q, hA0, hV, rfl, _, _⟩ := hW
  have hA : DataW.TrodAll enc Try.prog W 0 (fun _ => true) true Try.f6.params.toList args.toList ds p := hA0
  rw [Try.params6] at hA hval
  obtain ⟨v0, v1, d0, d1, p0, p1, rfl, rfl, rfl, h0, h1⟩ := trodAll_two hA
  obtain ⟨rfl, rfl⟩ := trodVars_none hV
  obtain ⟨c0, c1, y0, y1, m, rfl, rfl, rfl, hy0, hy1⟩ := open_agg2 Try.underlying25 (by kernel_rfl) cells25 (hval 0 25 v0 rfl rfl) h0
  obtain ⟨n, rfl, rfl, rfl, wn⟩ := open_int Try.underlying3 (hval 1 3 v1 rfl rfl) h1
  obtain ⟨a, e0, rfl, wa⟩ := DataW.trod_int Try.underlying3 hy0
  obtain ⟨b, e1, rfl, wb⟩ := DataW.trod_int Try.underlying3 hy1
  simp at e0 e1
  subst e0 e1
  clear hA0 hval0
  have reads : ∀ (a b : Int) (_ : (Lit.int .i64 a).wf = true) (_ : (Lit.int .i64 b).wf = true) (W' : World) (sp : Nat → Bool), DataW.Trod enc Try.prog W' 0 sp true 25 (.agg #[.int .i64 a, .int .i64 b]) (.agg [.lit (.int .i64 a), .lit (.int .i64 b)]) [] := fun a b wa wb W' sp =>
    shut_agg2 (y0 := (.lit (.int .i64 a), [])) (y1 := (.lit (.int .i64 b), [])) Try.underlying25 (by kernel_rfl) cells25 ⟨1, by simp [DataW.trod, Try.underlying3, wa]⟩ ⟨1, by simp [DataW.trod, Try.underlying3, wb]⟩
  refine (walk a b n (bounds wa) (bounds wb) (bounds wn) W).mono fun e W' ⟨he, hg⟩ => ?_
  subst he
  exact ⟨_, rfl, _, _, _, [], _, [], hW', trodAll_mk1 (shut_bool Try.underlying4 _), trodAll_mk2 (reads a b wa wb W' _) (shut_int Try.underlying3 wn), rfl, hg.frame _, fun h => by cases h⟩

theorem proved : Rows.PointChecksSaid :=
  OpenClaim.holds_of_wide 6 Try.f6 rfl rfl rfl rfl rfl rfl rfl ⟨rfl, rfl, rfl, rfl, rfl⟩ rfl rfl rfl rfl rfl (by kernel_rfl) Try.func6 (by kernel_rfl)
    (of_decide_eq_true (by kernel_rfl)) (by unfold Func.isWrapper; first | (rw [if_pos (by decide +kernel)]; kernel_rfl) | (rw [if_neg (by decide +kernel)]; exact ⟨rfl, rfl⟩))
    (fun os started H enc _ => lifted os started H enc)
#print axioms proved
end Go.Proofs.Ytbmgjbpcijbocaa.pointChecks
