/- round.Add, down and up · round.Add, down and up: not above, not below · span: Valid, valid, told, Of · span: Neg, Add, Sub. -/
import Derived.Test.YtllapbkoildfiaaGreatFmtM40
import Derived.BigQuiet
import Derived.Test.YtllapbkoildfiaaGreatFmtM31
import Derived.Deep.RegionHeld3
set_option linter.all false
set_option exponentiation.threshold 100000
namespace Go.Proofs.YtllapbkoildfiaaGreatFmt
section
open Go.RowKit
theorem cls0 {n : Nat} (h : NN n) : cls n = 0 ↔ n % 9223372036854775808 = 0 := by
  have h1 := h.1
  have h2 := h.2
  unfold cls ef ff
  split
  · split <;> omega
  · split
    · split <;> omega
    · omega
structure EB (w wx : World) (X Y : Int) : Prop where
  a : wx.cell? ⟨w.heap.size, 0, none⟩ = some (.int .i64 X)
  b : wx.cell? ⟨w.heap.size + 1, 0, none⟩ = some (.int .i64 Y)
  turn : Turn (fun _ => False) w wx
  sz : w.heap.size + 1 < wx.heap.size
theorem EB.still {w wx wy : World} {X Y : Int} (h : EB w wx X Y) (t : Turn (fun _ => False) wx wy) : EB w wy X Y := by
  have hl := h.sz
  exact ⟨(t.cell (p := ⟨w.heap.size, 0, none⟩) (by show w.heap.size < _; omega) id).trans h.a, (t.cell (p := ⟨w.heap.size + 1, 0, none⟩) hl id).trans h.b, h.turn.trans' t, Nat.lt_of_lt_of_le hl t.size⟩
theorem EB.made (w : World) (X Y : Int) : EB w ((w.alloc (.cells #[.int .i64 X] 3)).alloc (.cells #[.int .i64 Y] 3)) X Y ∧ ((w.alloc (.cells #[.int .i64 X] 3)).alloc (.cells #[.int .i64 Y] 3)).heap.size = w.heap.size + 1 + 1 := by
  have c1 := cell_made #[.int .i64 X] 3 w 0
  have s1 := size_alloc w (.cells #[.int .i64 X] 3)
  have t1 := (Turn.refl (fun _ => False) w).alloc (.cells #[.int .i64 X] 3)
  generalize w.alloc (.cells #[.int .i64 X] 3) = w1 at *
  have c2 := cell_made #[.int .i64 Y] 3 w1 0
  have s2 := size_alloc w1 (.cells #[.int .i64 Y] 3)
  have t2 := (Turn.refl (fun _ => False) w1).alloc (.cells #[.int .i64 Y] 3)
  generalize w1.alloc (.cells #[.int .i64 Y] 3) = w2 at *
  rw [s1] at c2 s2
  exact ⟨⟨(t2.cell (p := ⟨w.heap.size, 0, none⟩) (by show w.heap.size < _; omega) id).trans c1, c2, t1.trans' t2, by omega⟩, s2⟩
structure AddK (x y nat : Nat) (X Y N C : Int) : Prop where
  fx : ∀ w, Calls Tryz.prog 61 #[.int .i64 X] w fun e w' => e = .returned (.float .f64 x) ∧ w = w'
  fy : ∀ w, Calls Tryz.prog 61 #[.int .i64 Y] w fun e w' => e = .returned (.float .f64 y) ∧ w = w'
  b : ∀ w, (binOp .add 57 (.float .f64 x) (.float .f64 y)).run Tryz.prog w = .ok (.float .f64 nat) w
  o : ∀ w, Calls Tryz.prog 59 #[.float .f64 nat] w fun e w' => e = .returned (.int .i64 N) ∧ w = w'
  c : ∀ w, Calls Tryz.prog 60 #[.int .i64 N] w fun e w' => e = .returned (.int .i64 C) ∧ w = w'
  f : ∀ w b, w.cell? ⟨b, 0, none⟩ = some (.int .i64 X) → w.cell? ⟨b, 1, none⟩ = some (.int .i64 Y) → Calls Tryz.prog 116 #[.slice (some ⟨b, 0, none⟩) 2 2] w (FnR w 2 fun i => if i = 0 then x else y)
theorem AddK.of {x y nat : Nat} (hx : NN x) (hy : NN y) (hn : floatBits .add .f64 x y = some nat) (hnn : NN nat) : AddK x y nat (iw x) (iw y) (iw nat) (cls nat) :=
  ⟨fun w => Float_any x w hx.1, fun w => Float_any y w hy.1, fun w => run_float_arith (P := Tryz.prog) w .add 57 .f64 x y nat hn, fun w => bOf_any nat w hnn, fun w => Class_any nat w hnn.1,
    fun w b h0 h1 => rfinite_any b 2 2 _ w (by omega) fun i hi => by
      rcases (by omega : i = 0 ∨ i = 1) with rfl | rfl
      · exact ⟨h0, hx.1⟩
      · exact ⟨h1, hy.1⟩⟩
theorem vtrue {v : Bool} {x y : Nat} (h : v = true ↔ ∀ i, i < 2 → Fin64 (if i = 0 then x else y)) (hf : Fin64 x ∧ Fin64 y) : v = true := h.2 fun i hi => by
  rcases (by omega : i = 0 ∨ i = 1) with rfl | rfl
  · exact hf.1
  · exact hf.2
theorem vfalse {v : Bool} {x y : Nat} (h : v = true ↔ ∀ i, i < 2 → Fin64 (if i = 0 then x else y)) (hf : ¬ (Fin64 x ∧ Fin64 y)) : v = false := by
  cases v
  · rfl
  · exact absurd ⟨h.1 rfl 0 (by omega), h.1 rfl 1 (by omega)⟩ hf
set_option maxRecDepth 100000 in
set_option maxHeartbeats 2000000 in
theorem add_1n (x y nat : Nat) (X Y N C : Int) (b : Int) (w : World) (hK : AddK x y nat X Y N C) (hf : Fin64 x ∧ Fin64 y) (hc : ¬ C = 0)
    (hS : ∀ W, EB w W X Y → Calls Tryz.prog 117 #[.int .i64 1, .int .i64 N, .bool true, .func (.func 118) #[] #[.pointer (some ⟨w.heap.size, 0, none⟩), .pointer (some ⟨w.heap.size + 1, 0, none⟩)]] W (OpR W b)) :
    Calls Tryz.prog 80 #[.int .i64 X, .int .i64 Y, .int .i64 1] w (OpR w b) := by
  obtain ⟨F, hs⟩ := EB.made w X Y
  obtain ⟨hFx, hFy, hB, hO, hC, hFn⟩ := hK
  have a0 := F.a
  have b0 := F.b
  replace hS := Lib.hid hS
  replace hf := Lib.hid hf
  go_enter Tryz.func80, Tryz.ntmps80
  go_wp2_with fail
  generalize World.alloc (World.alloc w _) _ = w2 at *
  go_quiet (first
    | (go_at_call 61; exact quiet_same (hFx _))
    | (go_at_call 61; exact quiet_same (hFy _))
    | (go_at_call 59; exact quiet_same (hO _)))
  replace F := F.still ((Turn.refl (fun _ => False) w2).drewN nq)
  clear a0 b0 hs
  generalize w2.drewN nq = w3 at F ⊢
  have F4 := F.still ((Turn.refl (fun _ => False) w3).alloc (.cells #[.int .i64 X, .int .i64 Y] 3))
  have hFF := hFn _ w3.heap.size (cell_made #[.int .i64 X, .int .i64 Y] 3 w3 0) (cell_made #[.int .i64 X, .int .i64 Y] 3 w3 1)
  have a0 := F.a
  have b0 := F.b
  have a1 := F4.a
  have b1 := F4.b
  have hT := Lib.hid F4.turn
  have hSS := hS.out _ F4
  clear F F4 hFn
  go_wp2_with (first
    | (go_at_call 116; ((with_reducible refine hFF.mono ?_)); rintro en wd' ⟨⟨v, rfl, hv⟩, rfl⟩
       obtain rfl : v = true := vtrue hv hf.out
       clear hv)
    | (go_at_call 60; ((with_reducible refine (hC _).mono ?_)); rintro en wd' ⟨rfl, rfl⟩)
    | (go_at_call 117; ((with_reducible refine hSS.mono ?_)); rintro en we ⟨rfl, ht⟩))
  go_ret2
  exact ⟨rfl, hT.out.trans' ht⟩
set_option maxRecDepth 100000 in
set_option maxHeartbeats 2000000 in
theorem add_1z (x nat : Nat) (N : Int) (b : Int) (w : World) (hK : AddK x x nat 0 0 N 0) (hf : Fin64 x ∧ Fin64 x)
    (hS : ∀ W, EB w W 0 0 → Calls Tryz.prog 117 #[.int .i64 1, .int .i64 N, .bool true, .func (.func 118) #[] #[.pointer (some ⟨w.heap.size, 0, none⟩), .pointer (some ⟨w.heap.size + 1, 0, none⟩)]] W (OpR W b)) :
    Calls Tryz.prog 80 #[.int .i64 0, .int .i64 0, .int .i64 1] w (OpR w b) := by
  obtain ⟨F, hs⟩ := EB.made w 0 0
  obtain ⟨hFx, hFy, hB, hO, hC, hFn⟩ := hK
  have a0 := F.a
  have b0 := F.b
  replace hS := Lib.hid hS
  replace hf := Lib.hid hf
  go_enter Tryz.func80, Tryz.ntmps80
  go_wp2_with fail
  generalize World.alloc (World.alloc w _) _ = w2 at *
  go_quiet (first
    | (go_at_call 61; exact quiet_same (hFx _))
    | (go_at_call 61; exact quiet_same (hFy _))
    | (go_at_call 59; exact quiet_same (hO _)))
  replace F := F.still ((Turn.refl (fun _ => False) w2).drewN nq)
  clear a0 b0 hs
  generalize w2.drewN nq = w3 at F ⊢
  have F4 := F.still ((Turn.refl (fun _ => False) w3).alloc (.cells #[.int .i64 0, .int .i64 0] 3))
  have hFF := hFn _ w3.heap.size (cell_made #[.int .i64 0, .int .i64 0] 3 w3 0) (cell_made #[.int .i64 0, .int .i64 0] 3 w3 1)
  have a0 := F.a
  have b0 := F.b
  have a1 := F4.a
  have b1 := F4.b
  have hT := Lib.hid F4.turn
  have hSS := hS.out _ F4
  clear F F4 hFn
  go_wp2_with (first
    | (go_at_call 116; ((with_reducible refine hFF.mono ?_)); rintro en wd' ⟨⟨v, rfl, hv⟩, rfl⟩
       obtain rfl : v = true := vtrue hv hf.out
       clear hv)
    | (go_at_call 60; ((with_reducible refine (hC _).mono ?_)); rintro en wd' ⟨rfl, rfl⟩)
    | (go_at_call 117; ((with_reducible refine hSS.mono ?_)); rintro en we ⟨rfl, ht⟩))
  go_ret2
  exact ⟨rfl, hT.out.trans' ht⟩
set_option maxRecDepth 100000 in
set_option maxHeartbeats 2000000 in
theorem add_1m (x y nat : Nat) (X Y N : Int) (w : World) (hK : AddK x y nat X Y N 0) (hf : Fin64 x ∧ Fin64 y) (hX : ¬ X = 0) :
    Calls Tryz.prog 80 #[.int .i64 X, .int .i64 Y, .int .i64 1] w (OpR w (-9223372036854775808)) := by
  obtain ⟨F, hs⟩ := EB.made w X Y
  obtain ⟨hFx, hFy, hB, hO, hC, hFn⟩ := hK
  have a0 := F.a
  have b0 := F.b
  replace hf := Lib.hid hf
  go_enter Tryz.func80, Tryz.ntmps80
  go_wp2_with fail
  generalize World.alloc (World.alloc w _) _ = w2 at *
  go_quiet (first
    | (go_at_call 61; exact quiet_same (hFx _))
    | (go_at_call 61; exact quiet_same (hFy _))
    | (go_at_call 59; exact quiet_same (hO _)))
  replace F := F.still ((Turn.refl (fun _ => False) w2).drewN nq)
  clear a0 b0 hs
  generalize w2.drewN nq = w3 at F ⊢
  have F4 := F.still ((Turn.refl (fun _ => False) w3).alloc (.cells #[.int .i64 X, .int .i64 Y] 3))
  have hFF := hFn _ w3.heap.size (cell_made #[.int .i64 X, .int .i64 Y] 3 w3 0) (cell_made #[.int .i64 X, .int .i64 Y] 3 w3 1)
  have a0 := F.a
  have b0 := F.b
  have a1 := F4.a
  have b1 := F4.b
  have hT := Lib.hid F4.turn
  have hN : ∀ w, Calls Tryz.prog 73 #[.int .i64 0] w fun e w' => e = .returned (.int .i64 (-9223372036854775808)) ∧ w = w' := fun w => Neg_word 0 w nought_f.1
  clear F F4 hFn
  go_wp2_with (first
    | (go_at_call 116; ((with_reducible refine hFF.mono ?_)); rintro en wd' ⟨⟨v, rfl, hv⟩, rfl⟩
       obtain rfl : v = true := vtrue hv hf.out
       clear hv)
    | (go_at_call 60; ((with_reducible refine (hC _).mono ?_)); rintro en wd' ⟨rfl, rfl⟩)
    | (go_at_call 73; ((with_reducible refine (hN _).mono ?_)); rintro en we ⟨rfl, rfl⟩))
  go_ret2
  exact ⟨rfl, hT.out⟩
set_option maxRecDepth 100000 in
set_option maxHeartbeats 2000000 in
theorem add_1k (x y nat : Nat) (Y N : Int) (w : World) (hK : AddK x y nat 0 Y N 0) (hf : Fin64 x ∧ Fin64 y) (hY : ¬ Y = 0) :
    Calls Tryz.prog 80 #[.int .i64 0, .int .i64 Y, .int .i64 1] w (OpR w (-9223372036854775808)) := by
  obtain ⟨F, hs⟩ := EB.made w 0 Y
  obtain ⟨hFx, hFy, hB, hO, hC, hFn⟩ := hK
  have a0 := F.a
  have b0 := F.b
  replace hf := Lib.hid hf
  go_enter Tryz.func80, Tryz.ntmps80
  go_wp2_with fail
  generalize World.alloc (World.alloc w _) _ = w2 at *
  go_quiet (first
    | (go_at_call 61; exact quiet_same (hFx _))
    | (go_at_call 61; exact quiet_same (hFy _))
    | (go_at_call 59; exact quiet_same (hO _)))
  replace F := F.still ((Turn.refl (fun _ => False) w2).drewN nq)
  clear a0 b0 hs
  generalize w2.drewN nq = w3 at F ⊢
  have F4 := F.still ((Turn.refl (fun _ => False) w3).alloc (.cells #[.int .i64 0, .int .i64 Y] 3))
  have hFF := hFn _ w3.heap.size (cell_made #[.int .i64 0, .int .i64 Y] 3 w3 0) (cell_made #[.int .i64 0, .int .i64 Y] 3 w3 1)
  have a0 := F.a
  have b0 := F.b
  have a1 := F4.a
  have b1 := F4.b
  have hT := Lib.hid F4.turn
  have hN : ∀ w, Calls Tryz.prog 73 #[.int .i64 0] w fun e w' => e = .returned (.int .i64 (-9223372036854775808)) ∧ w = w' := fun w => Neg_word 0 w nought_f.1
  clear F F4 hFn
  go_wp2_with (first
    | (go_at_call 116; ((with_reducible refine hFF.mono ?_)); rintro en wd' ⟨⟨v, rfl, hv⟩, rfl⟩
       obtain rfl : v = true := vtrue hv hf.out
       clear hv)
    | (go_at_call 60; ((with_reducible refine (hC _).mono ?_)); rintro en wd' ⟨rfl, rfl⟩)
    | (go_at_call 73; ((with_reducible refine (hN _).mono ?_)); rintro en we ⟨rfl, rfl⟩))
  go_ret2
  exact ⟨rfl, hT.out⟩
set_option maxRecDepth 100000 in
set_option maxHeartbeats 2000000 in
theorem add_1i (x y nat : Nat) (X Y N C : Int) (b : Int) (w : World) (hK : AddK x y nat X Y N C) (hf : ¬ (Fin64 x ∧ Fin64 y))
    (hS : ∀ W, EB w W X Y → Calls Tryz.prog 117 #[.int .i64 1, .int .i64 N, .bool false, .func (.func 118) #[] #[.pointer (some ⟨w.heap.size, 0, none⟩), .pointer (some ⟨w.heap.size + 1, 0, none⟩)]] W (OpR W b)) :
    Calls Tryz.prog 80 #[.int .i64 X, .int .i64 Y, .int .i64 1] w (OpR w b) := by
  obtain ⟨F, hs⟩ := EB.made w X Y
  obtain ⟨hFx, hFy, hB, hO, hC, hFn⟩ := hK
  have a0 := F.a
  have b0 := F.b
  replace hS := Lib.hid hS
  replace hf := Lib.hid hf
  go_enter Tryz.func80, Tryz.ntmps80
  go_wp2_with fail
  generalize World.alloc (World.alloc w _) _ = w2 at *
  go_quiet (first
    | (go_at_call 61; exact quiet_same (hFx _))
    | (go_at_call 61; exact quiet_same (hFy _))
    | (go_at_call 59; exact quiet_same (hO _)))
  replace F := F.still ((Turn.refl (fun _ => False) w2).drewN nq)
  clear a0 b0 hs
  generalize w2.drewN nq = w3 at F ⊢
  have F4 := F.still ((Turn.refl (fun _ => False) w3).alloc (.cells #[.int .i64 X, .int .i64 Y] 3))
  have hFF := hFn _ w3.heap.size (cell_made #[.int .i64 X, .int .i64 Y] 3 w3 0) (cell_made #[.int .i64 X, .int .i64 Y] 3 w3 1)
  have a0 := F.a
  have b0 := F.b
  have a1 := F4.a
  have b1 := F4.b
  have hT := Lib.hid F4.turn
  have hSS := hS.out _ F4
  clear F F4 hFn
  go_wp2_with (first
    | (go_at_call 116; ((with_reducible refine hFF.mono ?_)); rintro en wd' ⟨⟨v, rfl, hv⟩, rfl⟩
       obtain rfl : v = false := vfalse hv hf.out
       clear hv)
    | (go_at_call 60; ((with_reducible refine (hC _).mono ?_)); rintro en wd' ⟨rfl, rfl⟩)
    | (go_at_call 117; ((with_reducible refine hSS.mono ?_)); rintro en we ⟨rfl, ht⟩))
  go_ret2
  exact ⟨rfl, hT.out.trans' ht⟩
set_option maxRecDepth 100000 in
set_option maxHeartbeats 2000000 in
theorem add_2f (x y nat : Nat) (X Y N C : Int) (b : Int) (w : World) (hK : AddK x y nat X Y N C) (hf : Fin64 x ∧ Fin64 y)
    (hS : ∀ W, EB w W X Y → Calls Tryz.prog 117 #[.int .i64 2, .int .i64 N, .bool true, .func (.func 118) #[] #[.pointer (some ⟨w.heap.size, 0, none⟩), .pointer (some ⟨w.heap.size + 1, 0, none⟩)]] W (OpR W b)) :
    Calls Tryz.prog 80 #[.int .i64 X, .int .i64 Y, .int .i64 2] w (OpR w b) := by
  obtain ⟨F, hs⟩ := EB.made w X Y
  obtain ⟨hFx, hFy, hB, hO, hC, hFn⟩ := hK
  have a0 := F.a
  have b0 := F.b
  replace hS := Lib.hid hS
  replace hf := Lib.hid hf
  go_enter Tryz.func80, Tryz.ntmps80
  go_wp2_with fail
  generalize World.alloc (World.alloc w _) _ = w2 at *
  go_quiet (first
    | (go_at_call 61; exact quiet_same (hFx _))
    | (go_at_call 61; exact quiet_same (hFy _))
    | (go_at_call 59; exact quiet_same (hO _)))
  replace F := F.still ((Turn.refl (fun _ => False) w2).drewN nq)
  clear a0 b0 hs
  generalize w2.drewN nq = w3 at F ⊢
  have F4 := F.still ((Turn.refl (fun _ => False) w3).alloc (.cells #[.int .i64 X, .int .i64 Y] 3))
  have hFF := hFn _ w3.heap.size (cell_made #[.int .i64 X, .int .i64 Y] 3 w3 0) (cell_made #[.int .i64 X, .int .i64 Y] 3 w3 1)
  have a0 := F.a
  have b0 := F.b
  have a1 := F4.a
  have b1 := F4.b
  have hT := Lib.hid F4.turn
  have hSS := hS.out _ F4
  clear F F4 hFn
  go_wp2_with (first
    | (go_at_call 116; ((with_reducible refine hFF.mono ?_)); rintro en wd' ⟨⟨v, rfl, hv⟩, rfl⟩
       obtain rfl : v = true := vtrue hv hf.out
       clear hv)
    | (go_at_call 60; ((with_reducible refine (hC _).mono ?_)); rintro en wd' ⟨rfl, rfl⟩)
    | (go_at_call 117; ((with_reducible refine hSS.mono ?_)); rintro en we ⟨rfl, ht⟩))
  go_ret2
  exact ⟨rfl, hT.out.trans' ht⟩
set_option maxRecDepth 100000 in
set_option maxHeartbeats 2000000 in
theorem add_2i (x y nat : Nat) (X Y N C : Int) (b : Int) (w : World) (hK : AddK x y nat X Y N C) (hf : ¬ (Fin64 x ∧ Fin64 y))
    (hS : ∀ W, EB w W X Y → Calls Tryz.prog 117 #[.int .i64 2, .int .i64 N, .bool false, .func (.func 118) #[] #[.pointer (some ⟨w.heap.size, 0, none⟩), .pointer (some ⟨w.heap.size + 1, 0, none⟩)]] W (OpR W b)) :
    Calls Tryz.prog 80 #[.int .i64 X, .int .i64 Y, .int .i64 2] w (OpR w b) := by
  obtain ⟨F, hs⟩ := EB.made w X Y
  obtain ⟨hFx, hFy, hB, hO, hC, hFn⟩ := hK
  have a0 := F.a
  have b0 := F.b
  replace hS := Lib.hid hS
  replace hf := Lib.hid hf
  go_enter Tryz.func80, Tryz.ntmps80
  go_wp2_with fail
  generalize World.alloc (World.alloc w _) _ = w2 at *
  go_quiet (first
    | (go_at_call 61; exact quiet_same (hFx _))
    | (go_at_call 61; exact quiet_same (hFy _))
    | (go_at_call 59; exact quiet_same (hO _)))
  replace F := F.still ((Turn.refl (fun _ => False) w2).drewN nq)
  clear a0 b0 hs
  generalize w2.drewN nq = w3 at F ⊢
  have F4 := F.still ((Turn.refl (fun _ => False) w3).alloc (.cells #[.int .i64 X, .int .i64 Y] 3))
  have hFF := hFn _ w3.heap.size (cell_made #[.int .i64 X, .int .i64 Y] 3 w3 0) (cell_made #[.int .i64 X, .int .i64 Y] 3 w3 1)
  have a0 := F.a
  have b0 := F.b
  have a1 := F4.a
  have b1 := F4.b
  have hT := Lib.hid F4.turn
  have hSS := hS.out _ F4
  clear F F4 hFn
  go_wp2_with (first
    | (go_at_call 116; ((with_reducible refine hFF.mono ?_)); rintro en wd' ⟨⟨v, rfl, hv⟩, rfl⟩
       obtain rfl : v = false := vfalse hv hf.out
       clear hv)
    | (go_at_call 60; ((with_reducible refine (hC _).mono ?_)); rintro en wd' ⟨rfl, rfl⟩)
    | (go_at_call 117; ((with_reducible refine hSS.mono ?_)); rintro en we ⟨rfl, ht⟩))
  go_ret2
  exact ⟨rfl, hT.out.trans' ht⟩
end
section
open Go.RowKit
theorem EB.c118 {w W : World} {x y : Nat} (h : EB w W (iw x) (iw y)) (hx : Fin64 x) (hy : Fin64 y) (hT : Tab w) : ∀ W', Turn (fun _ => False) W W' → Calls Tryz.prog 118 #[.pointer (some ⟨w.heap.size, 0, none⟩), .pointer (some ⟨w.heap.size + 1, 0, none⟩)] W' (NuRes W' 1074 (fv x + fv y)) := fun W' t => by
  have h2 := h.still t
  exact c118_any w.heap.size (w.heap.size + 1) x y W' hx hy h2.a h2.b (hT.still h2.turn)
theorem sum_small {x y : Nat} (hx : Fin64 x) (hy : Fin64 y) : (fv x + fv y).natAbs < 2 ^ 4196 := Nat.lt_of_lt_of_le (abs_sum (fv_lt2 hx) (fv_lt2 hy)) (Nat.pow_le_pow_right (by omega) (by omega))
theorem nought_le {nat : Nat} (hnn : NN nat) (h : nat % 9223372036854775808 = 0) : Fin64 nat ∧ fv nat = 0 := ⟨⟨hnn.1, by omega⟩, fv_zero.2 h⟩
theorem rAdd_down (x y : Nat) (w : World) (hx : NN x) (hy : NN y) (h1 : rk x = -9218868437227405312 ∨ Fin64 x) (h2 : rk y = -9218868437227405312 ∨ Fin64 y) (hT : Tab w) :
    ∃ r, NN r ∧ (rk r = -9218868437227405312 ∨ Fin64 x ∧ Fin64 y ∧ Fin64 r ∧ fv r ≤ fv x + fv y) ∧ Calls Tryz.prog 80 #[.int .i64 (iw x), .int .i64 (iw y), .int .i64 1] w (OpR w (iw r)) := by
  by_cases hf : Fin64 x ∧ Fin64 y
  · obtain ⟨nat, hn, hnn, hz⟩ := add_fin hf.1 hf.2
    have hK := AddK.of hx hy hn hnn
    by_cases hU : fv x + fv y = 0
    · have hr := hz.2 hU
      have hc := (cls0 hnn).2 hr
      rw [hc] at hK
      have i63 : iw 9223372036854775808 = -9223372036854775808 := by decide
      by_cases hX : iw x = 0
      · by_cases hY : iw y = 0
        · have ex : x = 0 := iw_inj hx.1 (by omega) (by rw [hX]; rfl)
          have ey : y = 0 := iw_inj hy.1 (by omega) (by rw [hY]; rfl)
          subst ex; subst ey
          rw [hX] at hK
          obtain ⟨g1, g2⟩ := nought_le hnn hr
          refine ⟨nat, hnn, .inr ⟨hf.1, hf.2, g1, by rw [g2, hU]; exact Int.le_refl _⟩, ?_⟩
          rw [hX]
          refine add_1z 0 nat (iw nat) (iw nat) w hK hf fun W F => ?_
          have F' : EB w W (iw 0) (iw 0) := by rw [hX]; exact F
          exact settle_118_1_0 (iw nat) _ _ _ W (F'.c118 hf.1 hf.2 hT) (sum_small hf.1 hf.2) hU
        · rw [hX] at hK
          refine ⟨9223372036854775808, nought_t.1, .inr ⟨hf.1, hf.2, nought_t.2.2.2, by rw [nought_t.2.2.1, hU]; exact Int.le_refl _⟩, ?_⟩
          rw [i63, hX]
          exact add_1k x y nat (iw y) (iw nat) w hK hf hY
      · refine ⟨9223372036854775808, nought_t.1, .inr ⟨hf.1, hf.2, nought_t.2.2.2, by rw [nought_t.2.2.1, hU]; exact Int.le_refl _⟩, ?_⟩
        rw [i63]
        exact add_1m x y nat (iw x) (iw y) (iw nat) w hK hf hX
    · have hc : ¬ cls nat = 0 := fun h => hU (hz.1 ((cls0 hnn).1 h))
      have hd := down_ok (fv x + fv y) 0
      obtain ⟨R, hR⟩ : ∃ R, R = dn (fw (fv x + fv y).natAbs 0 (decide (fv x + fv y < 0))) (fa (fv x + fv y).natAbs 0 (decide (fv x + fv y < 0))) (decide (fv x + fv y < 0)) := ⟨_, rfl⟩
      rw [← hR] at hd
      refine ⟨R, hd.1, hd.2.imp id fun g => ⟨hf.1, hf.2, g.1, by have := g.2; rw [Int.pow_zero, Int.mul_one] at this; exact this⟩, ?_⟩
      exact add_1n x y nat (iw x) (iw y) (iw nat) (cls nat) (iw R) w hK hf hc fun W F => settle_118_1_1 (iw nat) _ _ _ W (iw R) R rfl hR (F.c118 hf.1 hf.2 hT) (sum_small hf.1 hf.2) hU
  · obtain ⟨nat, hn, hnn, hr⟩ := add_inf hx hy h1 h2 hf
    have hK := AddK.of hx hy hn hnn
    exact ⟨nat, hnn, .inl hr, add_1i x y nat (iw x) (iw y) (iw nat) (cls nat) (iw nat) w hK hf fun W _ => settle_no_1 (iw nat) _ W⟩
theorem rAdd_up (x y : Nat) (w : World) (hx : NN x) (hy : NN y) (h1 : rk x = 9218868437227405312 ∨ Fin64 x) (h2 : rk y = 9218868437227405312 ∨ Fin64 y) (hT : Tab w) :
    ∃ r, NN r ∧ (rk r = 9218868437227405312 ∨ Fin64 x ∧ Fin64 y ∧ Fin64 r ∧ fv x + fv y ≤ fv r) ∧ Calls Tryz.prog 80 #[.int .i64 (iw x), .int .i64 (iw y), .int .i64 2] w (OpR w (iw r)) := by
  by_cases hf : Fin64 x ∧ Fin64 y
  · obtain ⟨nat, hn, hnn, hz⟩ := add_fin hf.1 hf.2
    have hK := AddK.of hx hy hn hnn
    by_cases hU : fv x + fv y = 0
    · obtain ⟨g1, g2⟩ := nought_le hnn (hz.2 hU)
      refine ⟨nat, hnn, .inr ⟨hf.1, hf.2, g1, by rw [g2, hU]; exact Int.le_refl _⟩, ?_⟩
      exact add_2f x y nat (iw x) (iw y) (iw nat) (cls nat) (iw nat) w hK hf fun W F => settle_118_2_0 (iw nat) _ _ _ W (F.c118 hf.1 hf.2 hT) (sum_small hf.1 hf.2) hU
    · have hd := up_ok (fv x + fv y) 0
      obtain ⟨R, hR⟩ : ∃ R, R = uw (fw (fv x + fv y).natAbs 0 (decide (fv x + fv y < 0))) (fa (fv x + fv y).natAbs 0 (decide (fv x + fv y < 0))) (decide (fv x + fv y < 0)) := ⟨_, rfl⟩
      rw [← hR] at hd
      refine ⟨R, hd.1, hd.2.imp id fun g => ⟨hf.1, hf.2, g.1, by have := g.2; rw [Int.pow_zero, Int.mul_one] at this; exact this⟩, ?_⟩
      exact add_2f x y nat (iw x) (iw y) (iw nat) (cls nat) (iw R) w hK hf fun W F => settle_118_2_1 (iw nat) _ _ _ W (iw R) R rfl hR (F.c118 hf.1 hf.2 hT) (sum_small hf.1 hf.2) hU
  · obtain ⟨nat, hn, hnn, hr⟩ := add_inf hx hy h1 h2 hf
    have hK := AddK.of hx hy hn hnn
    exact ⟨nat, hnn, .inl hr, add_2i x y nat (iw x) (iw y) (iw nat) (cls nat) (iw nat) w hK hf fun W _ => settle_no_2 (iw nat) _ W⟩
end
section
open Go.RowKit
abbrev spv (X Y : Int) : Value := .agg #[.int .i64 X, .int .i64 Y]
set_option maxRecDepth 100000 in
theorem sValid_gen (x y : Nat) (X Y : Int) (w : World) (hx : ∀ w, Calls Tryz.prog 61 #[.int .i64 X] w fun e w' => e = .returned (.float .f64 x) ∧ w = w') (hy : ∀ w, Calls Tryz.prog 61 #[.int .i64 Y] w fun e w' => e = .returned (.float .f64 y) ∧ w = w')
    (ho : (FloatKind.f64.format.order x y == some .lt || FloatKind.f64.format.order x y == some .eq) = true)
    (h1 : ∀ w, Calls Tryz.prog 115 #[.float .f64 x, .int .i64 1] w fun e w' => e = .returned (.bool false) ∧ w = w') (h2 : ∀ w, Calls Tryz.prog 115 #[.float .f64 y, .int .i64 (-1)] w fun e w' => e = .returned (.bool false) ∧ w = w') :
    Calls Tryz.prog 79 #[spv X Y] w fun e w' => e = .returned (.bool true) ∧ Turn (fun _ => False) w w' := by
  have m0 := cell_made #[.int .i64 X, .int .i64 Y] 47 w 0
  have m1 := cell_made #[.int .i64 X, .int .i64 Y] 47 w 1
  have t := Lib.hid ((Turn.refl (fun _ => False) w).alloc (.cells #[.int .i64 X, .int .i64 Y] 47))
  go_enter Tryz.func79, Tryz.ntmps79
  go_wp2_with fail
  go_quiet (first
    | (go_at_call 61; exact quiet_same (hx _))
    | (go_at_call 61; exact quiet_same (hy _)))
  go_wp2_with (first
    | (go_at_call 115; ((with_reducible refine (h1 _).mono ?_)); rintro en wa ⟨rfl, rfl⟩)
    | (go_at_call 115; ((with_reducible refine (h2 _).mono ?_)); rintro en wa ⟨rfl, rfl⟩))
  go_ret
  exact ⟨rfl, t.out.drewN _⟩
theorem leq_order {x y : Nat} (hx : NN x) (hy : NN y) (h : rk x ≤ rk y) : (FloatKind.f64.format.order x y == some .lt || FloatKind.f64.format.order x y == some .eq) = true := by
  rw [beq_lt hx hy, beq_eq hx hy]
  rcases (show rk x < rk y ∨ rk x = rk y by omega) with g | g
  · rw [decide_eq_true g]; rfl
  · rw [decide_eq_true g, Bool.or_true]
theorem sValid_any {lo hi : Nat} {U : Int} {J : Nat} (h : Enc lo hi U J) (w : World) : Calls Tryz.prog 79 #[spv (iw lo) (iw hi)] w fun e w' => e = .returned (.bool true) ∧ Turn (fun _ => False) w w' := by
  refine sValid_gen lo hi (iw lo) (iw hi) w (fun w => Float_any lo w h.lo.1.1) (fun w => Float_any hi w h.hi.1.1) (leq_order h.lo.1 h.hi.1 h.le) (fun w => ?_) (fun w => ?_)
  · have := IsInf_pos lo w h.lo.1
    rwa [decide_eq_false (by have := h.lo.lt; omega)] at this
  · have := IsInf_neg hi w h.hi.1
    rwa [decide_eq_false (by have := h.hi.gt; omega)] at this
def Spl (w : World) (b n : Nat) : Prop := ∀ i, i < n → ∃ X Y, w.cell? ⟨b, i * 2, none⟩ = some (.int .i64 X) ∧ w.cell? ⟨b, i * 2 + 1, none⟩ = some (.int .i64 Y) ∧ ∀ W, Calls Tryz.prog 79 #[spv X Y] W fun e w' => e = .returned (.bool true) ∧ Turn (fun _ => False) W w'
set_option maxRecDepth 100000 in
theorem svalid_any (b n c : Nat) (w : World) (hn : n ≤ 1000) (h : Spl w b n) : Calls Tryz.prog 53 #[.slice (some ⟨b, 0, none⟩) n c] w fun e w' => e = .returned (.int .i64 0) ∧ Turn (fun _ => False) w w' := by
  replace h := Lib.hid h
  go_enter Tryz.func53, Tryz.ntmps53
  go_wp2_with fail
  go_loopw [7] (fun vi wr => ∃ k : Nat, k ≤ n ∧ vi = .int .i64 k ∧ Turn (fun _ => False) w wr) (fun vi _ => n - (intOf vi).toNat)
  case atStart => exact ⟨0, Nat.zero_le _, rfl, Turn.refl _ _⟩
  case round =>
    obtain ⟨k, hk, rfl, ht⟩ := hrel
    by_cases hkn : k < n
    · obtain ⟨X, Y, c0, c1, hV⟩ := h.out k hkn
      have hlb := World.block_lt_of_cell? w _ c0
      have d0 := (ht.cell (p := ⟨b, k * 2, none⟩) hlb id).trans c0
      have d1 := (ht.cell (p := ⟨b, k * 2 + 1, none⟩) hlb id).trans c1
      have hn1 : (0 : Int) ≤ (k : Int) := by omega
      have hn2 : (k : Int) < n := by omega
      have ht1 := Lib.hid (ht.alloc (.cells #[.int .i64 X, .int .i64 Y] 47))
      clear c0 c1 hlb
      replace ht := Lib.hid ht
      go_wp2_with (go_at_call 79; ((with_reducible refine (hV _).mono ?_)); rintro e w' ⟨rfl, h2⟩
                   have ht2 := Lib.hid (ht1.out.trans' h2))
      all_goals go_roundw
      case rel => exact ⟨k + 1, by omega, by go_num, ht2.out⟩
      case measure => simp [intOf]; omega
    · obtain rfl : k = n := by omega
      replace ht := Lib.hid ht
      go_wp2_with fail
      go_ret
      exact ⟨rfl, ht.out⟩
def SpR (w : World) (U : Int) (J : Nat) (en : Ending) (w' : World) : Prop := ∃ lo hi, en = .returned (.tuple #[spv (iw lo) (iw hi), .int .i64 0]) ∧ Enc lo hi U J ∧ Turn (fun _ => False) w w'
set_option maxRecDepth 100000 in
theorem told_gen (X Y X' Y' : Int) (w : World) (hx : ∀ w, Calls Tryz.prog 82 #[.int .i64 X] w fun e w' => e = .returned (.int .i64 X') ∧ w = w') (hy : ∀ w, Calls Tryz.prog 82 #[.int .i64 Y] w fun e w' => e = .returned (.int .i64 Y') ∧ w = w') :
    Calls Tryz.prog 58 #[.int .i64 X, .int .i64 Y] w fun e w' => e = .returned (.tuple #[spv X' Y', .int .i64 0]) ∧ Turn (fun _ => False) w w' := by
  have ht := fun o => Lib.hid ((Turn.refl (fun _ => False) w).alloc o)
  go_enter Tryz.func58, Tryz.ntmps58
  go_wp2_with (first
    | (go_at_call 82; ((with_reducible refine (hx _).mono ?_)); rintro en wa ⟨rfl, rfl⟩)
    | (go_at_call 82; ((with_reducible refine (hy _).mono ?_)); rintro en wa ⟨rfl, rfl⟩))
  go_returns
  exact ⟨rfl, (ht _).out⟩
theorem stold_any {lo hi : Nat} {U : Int} {J : Nat} (h : Enc lo hi U J) (w : World) : Calls Tryz.prog 58 #[.int .i64 (iw lo), .int .i64 (iw hi)] w (SpR w U J) :=
  (told_gen (iw lo) (iw hi) (iw (cn lo)) (iw (cn hi)) w (fun w => Canon_any lo w h.lo.1) (fun w => Canon_any hi w h.hi.1)).mono fun _ _ ⟨h1, h2⟩ => ⟨_, _, h1, h.cn, h2⟩
set_option maxRecDepth 100000 in
theorem sOf_gen (X C : Int) (P : Ending → World → Prop) (w : World) (hc : ∀ w, Calls Tryz.prog 60 #[.int .i64 X] w fun e w' => e = .returned (.int .i64 C) ∧ w = w') (hC : ¬ 3 ≤ C)
    (hT : ∀ W, Turn (fun _ => False) w W → Calls Tryz.prog 58 #[.int .i64 X, .int .i64 X] W fun e w' => ∃ Y Z, e = .returned (.tuple #[spv Y Z, .int .i64 0]) ∧ (∀ W', Turn (fun _ => False) w W' → P (.returned (.tuple #[spv Y Z, .int .i64 0])) W') ∧ Turn (fun _ => False) W w') :
    Calls Tryz.prog 38 #[.int .i64 X] w P := by
  have o := fun i => cell_made #[.int .i64 0, .int .i64 0] 47 w i
  have fz := fun i => frozen_made #[.int .i64 0, .int .i64 0] 47 w i
  have t0 := (Turn.refl (fun _ => False) w).alloc (.cells #[.int .i64 0, .int .i64 0] 47)
  have s0 := size_alloc w (.cells #[.int .i64 0, .int .i64 0] 47)
  have hTT := hT _ t0
  replace t0 := Lib.hid t0
  replace s0 := Lib.hid s0
  replace o := Lib.hid o
  replace fz := Lib.hid fz
  clear hT
  go_enter Tryz.func38, Tryz.ntmps38
  go_wp2_with (first
    | (go_at_call 60; ((with_reducible refine (hc _).mono ?_)); rintro en wa ⟨rfl, rfl⟩)
    | (go_at_call 58; ((with_reducible refine hTT.mono ?_)); rintro en wa ⟨Y, Z, rfl, hP, ht⟩
       have hl := s0.out
       have e0 := (ht.cell (p := ⟨w.heap.size, 0, none⟩) (by show w.heap.size < _; omega) id).trans (o.out 0)
       have e1 := (ht.cell (p := ⟨w.heap.size, 1, none⟩) (by show w.heap.size < _; omega) id).trans (o.out 1)
       have e2 := (ht.frozen (p := ⟨w.heap.size, 0, none⟩) (by show w.heap.size < _; omega) id).trans (fz.out 0)
       have e3 := (ht.frozen (p := ⟨w.heap.size, 1, none⟩) (by show w.heap.size < _; omega) id).trans (fz.out 1)
       obtain ⟨q0, q1⟩ := set2 (.int .i64 Y) (.int .i64 Z) e0 e1
       have hfin := Lib.hid (hP _ ((t0.out.trans' ht).trans ((set_turn wa w.heap.size 0 (.int .i64 Y)).trans' (set_turn _ w.heap.size 1 (.int .i64 Z))) fun k hk e => by (have : k = w.heap.size := e; omega)))
       clear hl ht hP))
  refine bodyPost_ret (v := .tuple #[spv Y Z, .int .i64 0]) (by simp [results, Tryz.results38, go_sem, q0, q1]) rfl ?_
  exact hfin.out
theorem sOf_any (x : Nat) (w : World) (h : Fin64 x) : Calls Tryz.prog 38 #[.int .i64 (iw x)] w (SpR w (fv x) 0) := by
  refine sOf_gen (iw x) (cls x) _ w (fun w => Class_any x w h.1) (by have := cls_fin h; omega) fun W t => ?_
  exact (stold_any (Enc.one h) W).mono fun _ _ ⟨lo, hi, h1, h2, h3⟩ => ⟨_, _, h1, fun W' t' => ⟨lo, hi, rfl, h2, t'⟩, h3⟩
end
section
open Go.RowKit
structure SB (w : World) (b : Nat) (X Y : Int) : Prop where
  c0 : w.cell? ⟨b, 0, none⟩ = some (.int .i64 X)
  c1 : w.cell? ⟨b, 1, none⟩ = some (.int .i64 Y)
  fz : ∀ i, w.frozen? ⟨b, i, none⟩ = false
theorem SB.lt {w : World} {b : Nat} {X Y : Int} (h : SB w b X Y) : b < w.heap.size := World.block_lt_of_cell? w _ h.c0
theorem SB.still {w w' : World} {b : Nat} {X Y : Int} (h : SB w b X Y) (t : Turn (fun _ => False) w w') : SB w' b X Y :=
  ⟨(t.cell (p := ⟨b, 0, none⟩) h.lt id).trans h.c0, (t.cell (p := ⟨b, 1, none⟩) h.lt id).trans h.c1, fun i => (t.frozen (p := ⟨b, i, none⟩) h.lt id).trans (h.fz i)⟩
theorem SB.made (w : World) (X Y : Int) : SB (w.alloc (.cells #[.int .i64 X, .int .i64 Y] 47)) w.heap.size X Y := ⟨cell_made _ _ _ 0, cell_made _ _ _ 1, fun i => frozen_made _ _ _ i⟩
theorem SB.put {w : World} {b : Nat} {X Y : Int} (h : SB w b X Y) (X' Y' : Int) : (((w.setCell ⟨b, 0, none⟩ (.int .i64 X')).setCell ⟨b, 1, none⟩ (.int .i64 Y')).cell? ⟨b, 0, none⟩ = some (.int .i64 X') ∧ ((w.setCell ⟨b, 0, none⟩ (.int .i64 X')).setCell ⟨b, 1, none⟩ (.int .i64 Y')).cell? ⟨b, 1, none⟩ = some (.int .i64 Y')) ∧
    Turn (fun k => k = b) w ((w.setCell ⟨b, 0, none⟩ (.int .i64 X')).setCell ⟨b, 1, none⟩ (.int .i64 Y')) :=
  ⟨set2 (.int .i64 X') (.int .i64 Y') h.c0 h.c1, (set_turn w b 0 _).trans' (set_turn _ b 1 _)⟩
theorem spl_two (w : World) (X Y X2 Y2 : Int) (h1 : ∀ W, Calls Tryz.prog 79 #[spv X Y] W fun e w' => e = .returned (.bool true) ∧ Turn (fun _ => False) W w') (h2 : ∀ W, Calls Tryz.prog 79 #[spv X2 Y2] W fun e w' => e = .returned (.bool true) ∧ Turn (fun _ => False) W w') :
    Spl (w.alloc (.cells #[.int .i64 X, .int .i64 Y, .int .i64 X2, .int .i64 Y2] 47)) w.heap.size 2 := fun i hi => by
  have c := fun j => cell_made #[.int .i64 X, .int .i64 Y, .int .i64 X2, .int .i64 Y2] 47 w j
  rcases (by omega : i = 0 ∨ i = 1) with rfl | rfl
  · exact ⟨X, Y, c 0, c 1, h1⟩
  · exact ⟨X2, Y2, c 2, c 3, h2⟩
theorem spl_one (w : World) (X Y : Int) (h1 : ∀ W, Calls Tryz.prog 79 #[spv X Y] W fun e w' => e = .returned (.bool true) ∧ Turn (fun _ => False) W w') :
    Spl (w.alloc (.cells #[.int .i64 X, .int .i64 Y] 47)) w.heap.size 1 := fun i hi => by
  have c := fun j => cell_made #[.int .i64 X, .int .i64 Y] 47 w j
  obtain rfl : i = 0 := by omega
  exact ⟨X, Y, c 0, c 1, h1⟩
set_option maxRecDepth 100000 in
set_option maxHeartbeats 1000000 in
theorem sNeg_gen (X Y N1 N2 T1 T2 : Int) (w : World) (hV : ∀ W, Calls Tryz.prog 79 #[spv X Y] W fun e w' => e = .returned (.bool true) ∧ Turn (fun _ => False) W w')
    (hY : ∀ w, Calls Tryz.prog 73 #[.int .i64 Y] w fun e w' => e = .returned (.int .i64 N1) ∧ w = w') (hX : ∀ w, Calls Tryz.prog 73 #[.int .i64 X] w fun e w' => e = .returned (.int .i64 N2) ∧ w = w')
    (hT : ∀ W, Calls Tryz.prog 58 #[.int .i64 N1, .int .i64 N2] W fun e w' => e = .returned (.tuple #[spv T1 T2, .int .i64 0]) ∧ Turn (fun _ => False) W w') :
    Calls Tryz.prog 54 #[spv X Y] w fun e w' => e = .returned (.tuple #[spv T1 T2, .int .i64 0]) ∧ Turn (fun _ => False) w w' := by
  have b1 := SB.made w X Y
  have t1 := (Turn.refl (fun _ => False) w).alloc (.cells #[.int .i64 X, .int .i64 Y] 47)
  have s1 := size_alloc w (.cells #[.int .i64 X, .int .i64 Y] 47)
  generalize hw1 : w.alloc (.cells #[.int .i64 X, .int .i64 Y] 47) = w1 at b1 t1 s1
  have r1 := SB.made w1 0 0
  have t2 := (Turn.refl (fun _ => False) w1).alloc (.cells #[.int .i64 0, .int .i64 0] 47)
  have s2 := size_alloc w1 (.cells #[.int .i64 0, .int .i64 0] 47)
  have b2 := b1.still t2
  generalize hw2 : w1.alloc (.cells #[.int .i64 0, .int .i64 0] 47) = w2 at r1 t2 s2 b2
  have t3 := (Turn.refl (fun _ => False) w2).alloc (.cells #[.int .i64 X, .int .i64 Y] 47)
  have hVV := svalid_any w2.heap.size 1 1 _ (by omega) (spl_one w2 X Y hV)
  have b3 := b2.still t3
  have r3 := r1.still t3
  have hsz : w2.heap.size = w.heap.size + 1 + 1 := by omega
  rw [s1] at r3
  have tt := (t1.trans' t2).trans' t3
  have a0 := b2.c0
  have a1 := b2.c1
  rw [← hw2, ← hw1] at hVV a0 a1
  have hszz : ((w.alloc (.cells #[.int .i64 X, .int .i64 Y] 47)).alloc (.cells #[.int .i64 0, .int .i64 0] 47)).heap.size = w.heap.size + 1 + 1 := by rw [hw1, hw2]; exact hsz
  rw [hszz] at hVV
  rw [← hw2, ← hw1] at b3 r3 tt
  replace b3 := Lib.hid b3
  replace r3 := Lib.hid r3
  replace tt := Lib.hid tt
  clear b1 t1 s1 r1 t2 s2 b2 t3 hw1 hw2 hV hsz hszz
  go_enter Tryz.func54, Tryz.ntmps54
  go_wp2_with (go_at_call 53; ((with_reducible refine hVV.mono ?_)); rintro en wa ⟨rfl, h⟩
               have b4 := b3.out.still h
               have r4 := r3.out.still h
               have tt4 := tt.out.trans' h
               have b5 := b4.still ((Turn.refl (fun _ => False) wa).drew)
               have r5 := r4.still ((Turn.refl (fun _ => False) wa).drew)
               have tt5 := Lib.hid tt4.drew
               have a0 := b5.c0
               have a1 := b5.c1
               replace b5 := Lib.hid b5
               replace r5 := Lib.hid r5
               clear h b4 r4 tt4)
  go_region_held3 (fun wx => wx.cell? ⟨w.heap.size, 0, none⟩ = some (.int .i64 X) ∧ wx.cell? ⟨w.heap.size, 1, none⟩ = some (.int .i64 Y))
    (first | (refine ⟨?_, ?_⟩ <;> with_reducible assumption) | (refine ⟨?_, ?_⟩ <;> (with_reducible refine cell_two ?_ (by assumption); dsimp only; omega)))
    (first
      | (go_at_call 73; ((with_reducible refine (hY _).mono ?_)); rintro en wb ⟨rfl, rfl⟩)
      | (go_at_call 73; ((with_reducible refine (hX _).mono ?_)); rintro en wb ⟨rfl, rfl⟩)
      | (go_at_call 58; ((with_reducible refine (hT _).mono ?_)); rintro en wb ⟨rfl, h⟩
         have b6 := b5.out.still h
         have r6 := r5.out.still h
         have c0 := b6.c0
         have c1 := b6.c1
         have e0 := r6.c0
         have e1 := r6.c1
         have e2 := r6.fz 0
         have e3 := r6.fz 1
         obtain ⟨hq, hP⟩ := r6.put T1 T2
         have hq := Lib.hid hq
         have hfin := Lib.hid ((tt5.out.trans' h).trans hP fun k hk e => by omega)
         clear h b6 r6 hP))
  all_goals (
    obtain ⟨q0, q1⟩ := hq.out
    go_wp2_with fail
    refine bodyPost_ret (v := .tuple #[spv T1 T2, .int .i64 0]) (by simp [results, Tryz.results54, go_sem, q0, q1]) rfl ?_
    exact ⟨rfl, hfin.out⟩)
end
end Go.Proofs.YtllapbkoildfiaaGreatFmt
