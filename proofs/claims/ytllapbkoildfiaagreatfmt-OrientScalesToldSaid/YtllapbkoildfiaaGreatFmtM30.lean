/- math/big.Float.Float64: the walks, denormal · math/big.Float.Float64: the walks of what is less than the least, and of 0; all of them · Walks of package eft: just, sum · Walks of package eft: sum, twoSum, TwoSum, TwoDiff, FastTwoSum. -/
import Derived.Test.YtllapbkoildfiaaGreatFmtM29
import Derived.Test.YtllapbkoildfiaaGreatFmtM24
import Derived.Test.YtllapbkoildfiaaGreatFmtM00
set_option linter.all false
set_option exponentiation.threshold 100000
namespace Go.Proofs.YtllapbkoildfiaaGreatFmt
section
open Go.RowKit
variable {p P b c n A J : Nat} {acc ex : Int} {ng : Bool} {g : Nat → Nat}
theorem den_words {m R1 R2 : Nat} (h : r1 A J < 4503599627370496) (hm : m = r1 A J) (h1 : R1 = fw A J true) (h2 : R2 = fw A J false) :
    bits .or .u64 9223372036854775808 0 = 9223372036854775808 ∧ bits .or .u64 9223372036854775808 (m : Int) = (R1 : Int) ∧ bits .or .u64 0 0 = 0 ∧ bits .or .u64 0 (m : Int) = (R2 : Int) := by
  have hfw : ∀ b, fw A J b = wd b m := fun b => by unfold fw; rw [Nat.min_eq_left (by omega), hm]
  obtain ⟨-, t2⟩ := wd_or true (E := 0) (m := m) (by omega) (by omega)
  obtain ⟨-, f2⟩ := wd_or false (E := 0) (m := m) (by omega) (by omega)
  rw [ite_t, Nat.zero_mul, Nat.add_zero, Nat.zero_add] at t2
  rw [ite_f, Nat.zero_mul, Nat.add_zero, Nat.zero_add] at f2
  have a1 := u64_or_nat 9223372036854775808 0 (by omega) (by omega)
  have a2 := u64_or_nat 9223372036854775808 m (by omega) (by omega)
  have a4 := u64_or_nat 0 m (by omega) (by omega)
  rw [Nat.or_zero] at a1
  rw [t2, ← hfw, ← h1] at a2
  rw [f2, ← hfw, ← h2] at a4
  exact ⟨a1, a2, by decide, a4⟩
set_option maxRecDepth 100000 in
set_option maxHeartbeats 4000000 in
theorem f64D_nor (w : World) (h : Fl w p P acc 1 ng (some (b, c)) n g ex) (n1 : 1 ≤ n) (hn : n ≤ 10000) (ht : 9223372036854775808 ≤ g (n - 1)) (hP : 64 ≤ P) (pr : Nat) (hpr : (pr : Int) = 1074 + ex) (p1 : 1 ≤ pr) (p2 : pr ≤ 52) (hq : Mq (vl g n) n ex A J) (hr : ¬ r1 A J < 4503599627370496) :
    Calls Tryz.prog 109 #[.pointer (some ⟨p, 0, none⟩)] w (F64R w A J ng) := by
  have c6 := h.c6
  have c3 := h.c3
  have x1 : IntKind.i32.wrap (ex - 1) = ex - 1 := IntWalk.i32_in _ (by omega)
  have x2 : ex - 1 < -1022 := by omega
  have x10 : IntKind.i64.wrap (ex - 1) = ex - 1 := IntWalk.i64_in _ (by omega)
  have x3 : IntKind.i64.wrap (1075 + (ex - 1)) = (pr : Int) := by rw [IntKind.wrap_i64]; omega
  have x5 : decide ((pr : Int) < 0) = false := decide_eq_false (by omega)
  have x7 : decide ((pr : Int) = 0) = false := decide_eq_false (by omega)
  have x8 : ¬ (pr : Int) = 0 := by omega
  have x9 : ¬ pr = 0 := by omega
  replace h := Lib.hid h
  replace hq := Lib.hid hq
  replace hr := Lib.hid hr
  replace hpr := Lib.hid hpr
  replace ht := Lib.hid ht
  have fb := from_bits
  go_enter Tryz.func109, Tryz.ntmps109
  go_wp2_with fail
  go_quiet (fail)
  have t0 := (Turn.refl (fun _ => False) w).drewN nq
  replace h := h.out.still t0
  clear c6 c3 x5 x7 x3 x10 x1 x2
  generalize w.drewN nq = w0 at t0 h ⊢
  have hs0 := t0.size
  have hpl := h.lt
  have hbl := h.nt.2.2.2.2.lt
  have m2 := Fl.made w0 (pr : Nat) pr rfl
  have s1 := size_alloc w0 (.cells #[.int .u32 (pr : Nat), .int .u8 0, .int .i8 0, .int .u8 0, .bool false, .slice none 0 0, .int .i32 0] 159)
  have t2 := (Turn.refl (fun _ => False) w0).alloc (.cells #[.int .u32 (pr : Nat), .int .u8 0, .int .i8 0, .int .u8 0, .bool false, .slice none 0 0, .int .i32 0] 159)
  have h2 := h.still t2
  have hS := Set_any (rp := w0.heap.size) (p := p) _ m2 h2 (by omega) (by omega) n1 hn ht.out p1 (by omega) hP (by have := hpr.out; omega)
  have x4 : IntKind.u32.wrap (pr : Int) = (pr : Int) := by rw [IntKind.wrap_u32]; omega
  replace m2 := Lib.hid m2
  replace h2 := Lib.hid h2
  replace t2 := Lib.hid (t0.trans' t2)
  replace s1 := Lib.hid s1
  have hbl2 := Lib.hid hbl
  clear h hbl t0
  go_wp2_with (first
    | (go_at_call 149; ((with_reducible refine hM.mono ?_)); rintro en w4 ⟨rfl, rfl⟩)
    | (go_at_call 148
       ((with_reducible refine hS.mono ?_))
       rintro en w3 ⟨rfl, rb, rc, acc', Y, g', k1, k2, k3⟩
       obtain ⟨u5, u0⟩ := hq.out.den hpr.out p1 p2 (by omega) k2
       obtain ⟨v1, v2, v3⟩ := u0.resolve_right fun h => by
         obtain ⟨-, p', -, -, -, -, h⟩ := h
         exact hr.out h
       have h3 := (h2.out.turn k3 (by omega) (by rintro k ⟨c', e⟩ e2; injection e with e; injection e with e e'; have := hbl2.out; omega))
       have c43 := h3.c4
       have r6 := k1.c6
       have r3 := k1.c3
       have r2 := k1.c2
       have r5 := k1.c5
       simp only [nv] at r5
       have hM := msb64_any rb rc 1 g' w3 (k1.nt.2.2.2.1.mono k1.nt.1) (by omega) (by omega)
       replace v1 := Lib.hid v1
       have y1 : IntKind.i32.wrap (Y - 1) = Y - 1 := IntWalk.i32_in _ (by have := v1.out; omega)
       have y2 : ¬ Y - 1 < -1022 := by have := v1.out; omega
       have y3 : ¬ 1023 < Y - 1 := by have := v1.out; omega
       have hv := (k1.nt.2.2.2.1 0 (by have := k1.nt.1; omega)).2.2
       obtain ⟨⟨o1, o2⟩, ⟨o3, o4⟩⟩ := or_bits Y 1 0 (by have := v1.out; omega) (by omega) (by omega)
       have o2 : bits .or .u64 (9223372036854775808 + ((1 : Nat) : Int) * 4503599627370496) 0 = ((wd true (1 * 4503599627370496 + 0) : Nat) : Int) := o2
       have o4 : bits .or .u64 (((1 : Nat) : Int) * 4503599627370496) 0 = ((wd false (1 * 4503599627370496 + 0) : Nat) : Int) := o4
       have hmk := and_mask52 (g' 0) 0 hv v2
       have hfw : ∀ b, fw A J b = wd b (1 * 4503599627370496 + 0) := fun b => by unfold fw; rw [Nat.min_eq_left (by omega), v3]
       have hft := hfw true
       have hff := hfw false
       obtain ⟨R1, hR1⟩ : ∃ R1, R1 = fw A J true := ⟨_, rfl⟩
       obtain ⟨R2, hR2⟩ : ∃ R2, R2 = fw A J false := ⟨_, rfl⟩
       rw [← hft, ← hR1] at o2
       rw [← hff, ← hR2] at o4
       replace hR1 := Lib.hid hR1
       replace hR2 := Lib.hid hR2
       have hT := Lib.hid (t2.out.trans k3 fun k hk e => by omega)
       replace u5 := Lib.hid u5
       clear u0 k1 k2 k3 h3 v2 v3 hfw hft hff))
  all_goals (
    generalize 9223372036854775808 + ((1 : Nat) : Int) * 4503599627370496 = X1 at *
    generalize ((1 : Nat) : Int) * 4503599627370496 = X2 at *
    generalize (Y - 1 + 1023) * 4503599627370496 = B at *
    generalize (9223372036854775808 : Int) = S at *
    clear hmk hM y1 y2 y3)
  all_goals go_region
  all_goals go_wp2_with fail
  all_goals go_ret2
  · exact F64R.of (b := true) ‹_› hR1.out u5.out hT.out
  · exact F64R.of (b := false) ‹_› hR2.out u5.out hT.out
set_option maxRecDepth 100000 in
set_option maxHeartbeats 4000000 in
theorem f64D_den (w : World) (h : Fl w p P acc 1 ng (some (b, c)) n g ex) (n1 : 1 ≤ n) (hn : n ≤ 10000) (ht : 9223372036854775808 ≤ g (n - 1)) (hP : 64 ≤ P) (pr : Nat) (hpr : (pr : Int) = 1074 + ex) (p1 : 1 ≤ pr) (p2 : pr ≤ 52) (hq : Mq (vl g n) n ex A J) (hr : r1 A J < 4503599627370496) :
    Calls Tryz.prog 109 #[.pointer (some ⟨p, 0, none⟩)] w (F64R w A J ng) := by
  have c6 := h.c6
  have c3 := h.c3
  have x1 : IntKind.i32.wrap (ex - 1) = ex - 1 := IntWalk.i32_in _ (by omega)
  have x2 : ex - 1 < -1022 := by omega
  have x10 : IntKind.i64.wrap (ex - 1) = ex - 1 := IntWalk.i64_in _ (by omega)
  have x3 : IntKind.i64.wrap (1075 + (ex - 1)) = (pr : Int) := by rw [IntKind.wrap_i64]; omega
  have x5 : decide ((pr : Int) < 0) = false := decide_eq_false (by omega)
  have x7 : decide ((pr : Int) = 0) = false := decide_eq_false (by omega)
  have x8 : ¬ (pr : Int) = 0 := by omega
  have x9 : ¬ pr = 0 := by omega
  replace h := Lib.hid h
  replace hq := Lib.hid hq
  replace hr := Lib.hid hr
  replace hpr := Lib.hid hpr
  replace ht := Lib.hid ht
  have fb := from_bits
  go_enter Tryz.func109, Tryz.ntmps109
  go_wp2_with fail
  go_quiet (fail)
  have t0 := (Turn.refl (fun _ => False) w).drewN nq
  replace h := h.out.still t0
  clear c6 c3 x5 x7 x3 x10 x1 x2
  generalize w.drewN nq = w0 at t0 h ⊢
  have hs0 := t0.size
  have hpl := h.lt
  have hbl := h.nt.2.2.2.2.lt
  have m2 := Fl.made w0 (pr : Nat) pr rfl
  have s1 := size_alloc w0 (.cells #[.int .u32 (pr : Nat), .int .u8 0, .int .i8 0, .int .u8 0, .bool false, .slice none 0 0, .int .i32 0] 159)
  have t2 := (Turn.refl (fun _ => False) w0).alloc (.cells #[.int .u32 (pr : Nat), .int .u8 0, .int .i8 0, .int .u8 0, .bool false, .slice none 0 0, .int .i32 0] 159)
  have h2 := h.still t2
  have hS := Set_any (rp := w0.heap.size) (p := p) _ m2 h2 (by omega) (by omega) n1 hn ht.out p1 (by omega) hP (by have := hpr.out; omega)
  have x4 : IntKind.u32.wrap (pr : Int) = (pr : Int) := by rw [IntKind.wrap_u32]; omega
  replace m2 := Lib.hid m2
  replace h2 := Lib.hid h2
  replace t2 := Lib.hid (t0.trans' t2)
  replace s1 := Lib.hid s1
  have hbl2 := Lib.hid hbl
  clear h hbl t0
  go_wp2_with (first
    | (go_at_call 149; ((with_reducible refine hM.mono ?_)); rintro en w4 ⟨rfl, rfl⟩)
    | (go_at_call 148
       ((with_reducible refine hS.mono ?_))
       rintro en w3 ⟨rfl, rb, rc, acc', Y, g', k1, k2, k3⟩
       obtain ⟨u5, u0⟩ := hq.out.den hpr.out p1 p2 (by omega) k2
       obtain ⟨v1, p', v2, v3, v4, v5, v6⟩ := u0.resolve_left fun h => by
         have := h.2.2
         have := hr.out
         omega
       have h3 := (h2.out.turn k3 (by omega) (by rintro k ⟨c', e⟩ e2; injection e with e; injection e with e e'; have := hbl2.out; omega))
       have c43 := h3.c4
       have r6 := k1.c6
       have r3 := k1.c3
       have r2 := k1.c2
       have r5 := k1.c5
       simp only [nv] at r5
       have hM := msb64_any rb rc 1 g' w3 (k1.nt.2.2.2.1.mono k1.nt.1) (by omega) (by omega)
       have y1 : IntKind.i32.wrap (Y - 1) = Y - 1 := IntWalk.i32_in _ (by omega)
       have y2 : Y - 1 < -1022 := by omega
       have y3 : ¬ 1023 < Y - 1 := by omega
       have y4 : IntKind.i64.wrap (Y - 1) = Y - 1 := IntWalk.i64_in _ (by omega)
       have y5 : IntKind.i64.wrap (1075 + (Y - 1)) = (p' : Int) := by rw [IntKind.wrap_i64]; omega
       have y6 : IntKind.i64.wrap (64 - (p' : Int)) = ((64 - p' : Nat) : Int) := by rw [IntKind.wrap_i64]; omega
       have y7 : IntKind.u64.wrap ((64 - p' : Nat) : Int) = ((64 - p' : Nat) : Int) := by rw [IntKind.wrap_u64]; omega
       replace u5 := Lib.hid u5
       replace v2 := Lib.hid v2
       obtain ⟨m, hm⟩ : ∃ m, m = r1 A J := ⟨_, rfl⟩
       obtain ⟨R1, hR1⟩ : ∃ R1, R1 = fw A J true := ⟨_, rfl⟩
       obtain ⟨R2, hR2⟩ : ∃ R2, R2 = fw A J false := ⟨_, rfl⟩
       obtain ⟨o1, o2, o3, o4⟩ := den_words hr.out hm hR1 hR2
       have e0 : ((g' 0 : Nat) : Int) / 2 ^ (64 - p') = (m : Int) := by rw [hm, ← v5, Int.natCast_ediv, Int.natCast_pow]; rfl
       replace hm := Lib.hid hm
       replace hR1 := Lib.hid hR1
       replace hR2 := Lib.hid hR2
       have hT := Lib.hid (t2.out.trans k3 fun k hk e => by omega)
       clear u0 k1 k2 k3 h3 v5))
  all_goals (
    generalize (9223372036854775808 : Int) = S at *
    clear hM y1 y2 y3 y4 y5 y6 y7 e0)
  all_goals go_region
  all_goals go_wp2_with fail
  all_goals go_ret2
  · exact F64R.of (b := true) ‹_› hR1.out u5.out hT.out
  · exact F64R.of (b := false) ‹_› hR2.out u5.out hT.out
end
section
open Go.RowKit
variable {p P b c n A J : Nat} {acc ex : Int} {ng : Bool} {g : Nat → Nat}
theorem nought_words {A J : Nat} (h : r1 A J = 0) (h2 : ∀ b, fa A J b = accOf false b) : (opp 0 = fw A J true ∧ 1 = fa A J true) ∧ (0 = fw A J false ∧ -1 = fa A J false) := by
  unfold fw
  rw [h, h2, h2, Nat.zero_min, wd_t, wd_f, acc_ft, acc_ff]
  exact ⟨⟨by unfold opp; rw [if_pos (by omega)], rfl⟩, ⟨rfl, rfl⟩⟩
theorem least_words {A J : Nat} (h : r1 A J = 1) (h2 : ∀ b, fa A J b = accOf true b) : (9223372036854775809 = fw A J true ∧ -1 = fa A J true) ∧ (1 = fw A J false ∧ 1 = fa A J false) := by
  unfold fw
  rw [h, h2, h2, Nat.min_eq_left (by omega), wd_t, wd_f, acc_tt, acc_tf]
  exact ⟨⟨by omega, rfl⟩, ⟨rfl, rfl⟩⟩
theorem F64R.fin {w : World} {A J R nq : Nat} {ng b : Bool} {acc' : Int} (hn : ng = b) (h : R = fw A J b ∧ acc' = fa A J b) : F64R w A J ng (.returned (.tuple #[.float .f64 R, .int .i8 acc'])) (w.drewN nq) := by
  subst hn
  obtain ⟨rfl, rfl⟩ := h
  exact ⟨rfl, (Turn.refl _ _).drewN nq⟩
set_option maxRecDepth 100000 in
set_option maxHeartbeats 4000000 in
theorem f64_PN (w : World) (h : Fl w p P acc 1 ng (some (b, c)) n g ex) (he : -100000 ≤ ex ∧ ex < -1074) (hq : Mq (vl g n) n ex A J) :
    Calls Tryz.prog 109 #[.pointer (some ⟨p, 0, none⟩)] w (F64R w A J ng) := by
  have c6 := h.c6
  have c3 := h.c3
  have c4 := h.c4
  have hw := nought_words (hq.noth (ng := true) he.2).1 fun b => (hq.noth (ng := b) he.2).2
  have x1 : IntKind.i32.wrap (ex - 1) = ex - 1 := IntWalk.i32_in _ (by omega)
  have x2 : ex - 1 < -1022 := by omega
  have x10 : IntKind.i64.wrap (ex - 1) = ex - 1 := IntWalk.i64_in _ (by omega)
  have x3 : IntKind.i64.wrap (1075 + (ex - 1)) = ex + 1074 := by rw [IntKind.wrap_i64]; omega
  have x5 : decide (ex + 1074 < 0) = true := decide_eq_true (by omega)
  have hneg := run_neg (n := 0) (by omega)
  obtain ⟨R, hR⟩ : ∃ R, R = opp 0 := ⟨_, rfl⟩
  rw [← hR] at hneg hw
  replace hR := Lib.hid hR
  replace hw := Lib.hid hw
  clear h hq he
  go_enter Tryz.func109, Tryz.ntmps109
  go_wp2_with fail
  go_quiet (fail)
  go_wp2_with fail
  all_goals go_ret2
  · exact F64R.fin (b := true) ‹_› hw.out.1
  · exact F64R.fin (b := false) ‹_› hw.out.2
theorem quiet_same {f : FuncId} {args : Array Value} {w : World} {n : Nat} {v : Value} (h : Calls Tryz.prog f args (w.drewN n) fun e w' => e = .returned v ∧ w.drewN n = w') :
    Calls Tryz.prog f args (w.drewN n) fun e w'' => e = .returned v ∧ ∃ m, w'' = w.drewN m :=
  h.mono fun _ _ ⟨he, hm⟩ => ⟨he, n, hm.symm⟩
set_option maxRecDepth 100000 in
set_option maxHeartbeats 4000000 in
theorem f64_Pz (w : World) (h : Fl w p P acc 1 ng (some (b, c)) n g ex) (n1 : 1 ≤ n) (hn : n ≤ 10000) (he : ex = -1074) (hq : Mq (vl g n) n ex A J) (hs : vl g n % 2 ^ (64 * n - 1) = 0) :
    Calls Tryz.prog 109 #[.pointer (some ⟨p, 0, none⟩)] w (F64R w A J ng) := by
  subst he
  have c6 := h.c6
  have c3 := h.c3
  have c4 := h.c4
  have c5 := h.c5
  have hS := fun N => sticky_any b c n (64 * n - 1) g (w.drewN N) (((h.nt.2.2.2.1).mono h.nt.1).drewN N) (by omega) (by omega) h.nt.1
  rw [hs, stk_zero, show ((64 * n - 1 : Nat) : Int) = (n : Int) * 64 - 1 by omega] at hS
  have hS : ∀ N, Calls Tryz.prog 147 #[.slice (some ⟨b, 0, none⟩) n c, .int .u64 ((n : Int) * 64 - 1)] (w.drewN N) fun e w' => e = .returned (.int .u64 0) ∧ w.drewN N = w' := hS
  have hl := fun ng' => hq.least (ng := ng') rfl n1
  have hw := nought_words (A := A) (J := J) (by rw [(hl true).1, if_pos hs]) fun b => by rw [(hl b).2, if_pos hs]
  have hneg := run_neg (n := 0) (by omega)
  obtain ⟨R, hR⟩ : ∃ R, R = opp 0 := ⟨_, rfl⟩
  rw [← hR] at hneg hw
  have z1 : IntKind.u64.wrap (n : Int) = n := by rw [IntKind.wrap_u64]; omega
  have z2 : IntKind.u64.wrap ((n : Int) * 64) = (n : Int) * 64 := by rw [IntKind.wrap_u64]; omega
  have z3 : IntKind.u64.wrap ((n : Int) * 64 - 1) = (n : Int) * 64 - 1 := by rw [IntKind.wrap_u64]; omega
  simp only [nv] at c5
  replace hR := Lib.hid hR
  replace hw := Lib.hid hw
  clear h hq hl hs
  go_enter Tryz.func109, Tryz.ntmps109
  go_wp2_with fail
  go_quiet ((go_at_call 147; exact quiet_same (hS _)))
  go_wp2_with fail
  all_goals go_ret2
  · exact F64R.fin (b := true) ‹_› hw.out.1
  · exact F64R.fin (b := false) ‹_› hw.out.2
set_option maxRecDepth 100000 in
set_option maxHeartbeats 4000000 in
theorem f64_Ps (w : World) (h : Fl w p P acc 1 ng (some (b, c)) n g ex) (n1 : 1 ≤ n) (hn : n ≤ 10000) (he : ex = -1074) (hq : Mq (vl g n) n ex A J) (hs : ¬ vl g n % 2 ^ (64 * n - 1) = 0) :
    Calls Tryz.prog 109 #[.pointer (some ⟨p, 0, none⟩)] w (F64R w A J ng) := by
  subst he
  have c6 := h.c6
  have c3 := h.c3
  have c4 := h.c4
  have c5 := h.c5
  have hS := fun N => sticky_any b c n (64 * n - 1) g (w.drewN N) (((h.nt.2.2.2.1).mono h.nt.1).drewN N) (by omega) (by omega) h.nt.1
  rw [stk_pos hs, show ((64 * n - 1 : Nat) : Int) = (n : Int) * 64 - 1 by omega] at hS
  have hS : ∀ N, Calls Tryz.prog 147 #[.slice (some ⟨b, 0, none⟩) n c, .int .u64 ((n : Int) * 64 - 1)] (w.drewN N) fun e w' => e = .returned (.int .u64 1) ∧ w.drewN N = w' := hS
  have hl := fun ng' => hq.least (ng := ng') rfl n1
  have hw := least_words (A := A) (J := J) (by rw [(hl true).1, if_neg hs]) fun b => by rw [(hl b).2, if_neg hs]
  have z1 : IntKind.u64.wrap (n : Int) = n := by rw [IntKind.wrap_u64]; omega
  have z2 : IntKind.u64.wrap ((n : Int) * 64) = (n : Int) * 64 := by rw [IntKind.wrap_u64]; omega
  have z3 : IntKind.u64.wrap ((n : Int) * 64 - 1) = (n : Int) * 64 - 1 := by rw [IntKind.wrap_u64]; omega
  simp only [nv] at c5
  replace hw := Lib.hid hw
  clear h hq hl hs
  go_enter Tryz.func109, Tryz.ntmps109
  go_wp2_with fail
  go_quiet ((go_at_call 147; exact quiet_same (hS _)))
  go_wp2_with fail
  all_goals go_ret2
  · exact F64R.fin (b := true) ‹_› hw.out.1
  · exact F64R.fin (b := false) ‹_› hw.out.2
theorem f64_some (w : World) (h : Fl w p P acc 1 ng (some (b, c)) n g ex) (n1 : 1 ≤ n) (hn : n ≤ 10000) (ht : 9223372036854775808 ≤ g (n - 1)) (hP : 64 ≤ P) (he : -100000 ≤ ex ∧ ex ≤ 100000) (hq : Mq (vl g n) n ex A J) :
    Calls Tryz.prog 109 #[.pointer (some ⟨p, 0, none⟩)] w (F64R w A J ng) := by
  rcases (show -1021 ≤ ex ∨ (-1073 ≤ ex ∧ ex ≤ -1022) ∨ ex = -1074 ∨ ex < -1074 by omega) with k | k | k | k
  · rcases Nat.lt_or_ge (r1 A J) 9218868437227405312 with r | r
    · exact f64N_fin w h n1 hn ht hP ⟨k, he.2⟩ hq r
    · exact f64N_inf w h n1 hn ht hP ⟨k, he.2⟩ hq r
  · by_cases r : r1 A J < 4503599627370496
    · exact f64D_den w h n1 hn ht hP (1074 + ex).toNat (by omega) (by omega) (by omega) hq r
    · exact f64D_nor w h n1 hn ht hP (1074 + ex).toNat (by omega) (by omega) (by omega) hq r
  · by_cases s : vl g n % 2 ^ (64 * n - 1) = 0
    · exact f64_Pz w h n1 hn k hq s
    · exact f64_Ps w h n1 hn k hq s
  · exact f64_PN w h ⟨he.1, k⟩ hq
set_option maxRecDepth 100000 in
theorem f64_zero (w : World) (h : FZ w p) : Calls Tryz.prog 109 #[.pointer (some ⟨p, 0, none⟩)] w fun e w' => e = .returned (.tuple #[.float .f64 0, .int .i8 0]) ∧ w = w' := by
  obtain ⟨f, h⟩ := h
  have c3 := h.c3
  have c4 := h.c4
  clear h
  go_enter Tryz.func109, Tryz.ntmps109
  go_wp2_with fail
  go_ret2
  exact ⟨rfl, rfl⟩
end
section
open Go.RowKit
theorem pair_nms {w : World} {K : Nat} {A B : Int} {s1 s2 : Bool} {l1 l2 : Option Addr} {n1 n2 c1 c2 : Nat} {e1 e2 : Int} (ha : NumK w (.agg #[.bool s1, .slice l1 n1 c1, .int .i64 e1]) K A) (hb : NumK w (.agg #[.bool s2, .slice l2 n2 c2, .int .i64 e2]) K B) :
    Nms (w.alloc (.cells #[.bool s1, .slice l1 n1 c1, .int .i64 e1, .bool s2, .slice l2 n2 c2, .int .i64 e2] 53)) w.heap.size 0 2 K (U2 A B) := by
  intro j hj
  have t := (Turn.refl (fun _ => False) w).alloc (.cells #[.bool s1, .slice l1 n1 c1, .int .i64 e1, .bool s2, .slice l2 n2 c2, .int .i64 e2] 53)
  have hc := fun i => cell_made #[.bool s1, .slice l1 n1 c1, .int .i64 e1, .bool s2, .slice l2 n2 c2, .int .i64 e2] 53 w i
  rcases (by omega : j = 0 ∨ j = 1) with rfl | rfl
  · exact ⟨s1, l1, n1, c1, e1, hc 0, hc 1, hc 2, ha.still t⟩
  · exact ⟨s2, l2, n2, c2, e2, hc 3, hc 4, hc 5, hb.still t⟩
theorem zero_sgn : sgn 0 = 0 := rfl
set_option maxRecDepth 100000 in
set_option maxHeartbeats 2000000 in
theorem just_any (h l : Nat) (v : Value) (j : Nat) (X : Int) (w : World) (hh : Fin64 h) (hl : Fin64 l) (hv : NumK w v (1074 + j) X) (hj : j ≤ 2000) (hX : (fv h + fv l) * 2 ^ j = X) (hT : Tab w) :
    Calls Tryz.prog 140 #[.float .f64 h, .float .f64 l, v] w fun e w' => e = .returned (.bool true) ∧ Turn (fun _ => False) w w' := by
  obtain ⟨xs, xa, xk, xc, xE, rfl⟩ := hv.form
  have t0 := (Turn.refl (fun _ => False) w).alloc (.cells #[.bool xs, .slice xa xk xc, .int .i64 xE] 53)
  have m0 := cell_made #[.bool xs, .slice xa xk xc, .int .i64 xE] 53 w 0
  have m1 := cell_made #[.bool xs, .slice xa xk xc, .int .i64 xE] 53 w 1
  have m2 := cell_made #[.bool xs, .slice xa xk xc, .int .i64 xE] 53 w 2
  have hsz := size_alloc w (.cells #[.bool xs, .slice xa xk xc, .int .i64 xE] 53)
  have hsz2 := size_alloc (w.alloc (.cells #[.bool xs, .slice xa xk xc, .int .i64 xE] 53)) (.cells #[.float .f64 h, .float .f64 l] 57)
  have k0 := fun i => cell_made #[.float .f64 h, .float .f64 l] 57 (w.alloc (.cells #[.bool xs, .slice xa xk xc, .int .i64 xE] 53)) i
  have t1 := (Turn.refl (fun _ => False) (w.alloc (.cells #[.bool xs, .slice xa xk xc, .int .i64 xE] 53))).alloc (.cells #[.float .f64 h, .float .f64 l] 57)
  rw [hsz] at k0
  have hF := finite_all (w.heap.size + 1) 2 2 (fun i => if i = 0 then h else l) ((w.alloc (.cells #[.bool xs, .slice xa xk xc, .int .i64 xE] 53)).alloc (.cells #[.float .f64 h, .float .f64 l] 57)) (by omega) (fun i hi => by
    rcases (by omega : i = 0 ∨ i = 1) with rfl | rfl
    · exact ⟨k0 0, hh⟩
    · exact ⟨k0 1, hl⟩)
  have tt := t0.trans' t1
  have hN1 := num_any h ((w.alloc (.cells #[.bool xs, .slice xa xk xc, .int .i64 xE] 53)).alloc (.cells #[.float .f64 h, .float .f64 l] 57)) hh (hT.still tt)
  have hN2 := fun wa (t : Turn (fun _ => False) w wa) => num_any l wa hl (hT.still t)
  have hS : ∀ (wb : World) s1 l1 n1 c1 e1 s2 l2 n2 c2 e2, Turn (fun _ => False) w wb → NumK wb (.agg #[.bool s1, .slice l1 n1 c1, .int .i64 e1]) 1074 (fv h) → NumK wb (.agg #[.bool s2, .slice l2 n2 c2, .int .i64 e2]) 1074 (fv l) →
      Calls Tryz.prog 74 #[.slice (some ⟨wb.heap.size, 0, none⟩) 2 2] (wb.alloc (.cells #[.bool s1, .slice l1 n1 c1, .int .i64 e1, .bool s2, .slice l2 n2 c2, .int .i64 e2] 53)) (KRes2 (wb.alloc (.cells #[.bool s1, .slice l1 n1 c1, .int .i64 e1, .bool s2, .slice l2 n2 c2, .int .i64 e2] 53)) 1074 (fv h + fv l)) := fun wb s1 l1 n1 c1 e1 s2 l2 n2 c2 e2 t ha hb => by
    rw [← psum_two]
    exact Sum_any _ 0 2 2 1074 _ _ _ (by omega) (by omega) (.inr rfl) (pair_nms ha hb) (U2_lt (Nat.lt_trans (fv_bound hh) (Nat.pow_lt_pow_right (by omega) (by omega))) (Nat.lt_trans (fv_bound hl) (Nat.pow_lt_pow_right (by omega) (by omega)))) (hT.still (t.alloc _))
  have hb1 : ((fv h + fv l) * 2 ^ j).natAbs < 2 ^ 39000 := by
    rw [Int.natAbs_mul, Int.natAbs_pow]
    have a := fv_bound hh
    have b := fv_bound hl
    have c : (fv h + fv l).natAbs < 2 ^ 2099 := by rw [show 2099 = 2098 + 1 by omega, Nat.pow_succ]; generalize 2 ^ 2098 = W at *; omega
    refine Nat.lt_of_lt_of_le (Nat.mul_lt_mul_of_pos_right c (Nat.two_pow_pos _)) ?_
    rw [show Int.natAbs 2 = 2 from rfl, ← Nat.pow_add]
    exact Nat.pow_le_pow_right (by omega) (by omega)
  have hC : ∀ wd va, Turn (fun _ => False) w wd → NumK wd va 1074 (fv h + fv l) → Calls Tryz.prog 166 #[va, .agg #[.bool xs, .slice xa xk xc, .int .i64 xE]] wd (SRes wd 0) := fun wd va t hva => by
    have := dCmp_any va _ (1074 + j) _ X wd (by omega) (hva.lift j) (hv.still t) hb1 (by rw [← hX]; exact hb1)
    rw [hX, Int.sub_self, zero_sgn] at this
    exact this
  replace hN2 := Lib.hid hN2
  replace hS := Lib.hid hS
  replace hC := Lib.hid hC
  replace tt := Lib.hid tt
  have hlw : w.heap.size < ((w.alloc (.cells #[.bool xs, .slice xa xk xc, .int .i64 xE] 53)).alloc (.cells #[.float .f64 h, .float .f64 l] 57)).heap.size := by omega
  have b0 := (t1.cell (p := ⟨w.heap.size, 0, none⟩) (by rw [hsz]; exact Nat.lt_succ_self _) id).trans m0
  have b1 := (t1.cell (p := ⟨w.heap.size, 1, none⟩) (by rw [hsz]; exact Nat.lt_succ_self _) id).trans m1
  have b2 := (t1.cell (p := ⟨w.heap.size, 2, none⟩) (by rw [hsz]; exact Nat.lt_succ_self _) id).trans m2
  clear hh hl hv hX hT t0 t1 m0 m1 m2 k0 hsz hsz2 hb1
  replace hlw := Lib.hid hlw
  replace b0 := Lib.hid b0
  replace b1 := Lib.hid b1
  replace b2 := Lib.hid b2
  go_enter Tryz.func140, Tryz.ntmps140
  go_wp2_with (first
    | (go_at_call 138; ((with_reducible refine hF.mono ?_)); rintro en wa ⟨rfl, rfl⟩)
    | (go_at_call 139; ((with_reducible refine hN1.mono ?_)); rintro en wa ⟨v1, rfl, g1, g2⟩
       have ta := tt.out.trans' g2
       have hN3 := hN2.out wa ta
       have c0 := (g2.cell (p := ⟨w.heap.size, 0, none⟩) hlw.out id).trans b0.out
       have c1 := (g2.cell (p := ⟨w.heap.size, 1, none⟩) hlw.out id).trans b1.out
       have c2 := (g2.cell (p := ⟨w.heap.size, 2, none⟩) hlw.out id).trans b2.out
       have hl2 := Nat.lt_of_lt_of_le hlw.out g2.size
       clear hN1)
    | (go_at_call 139; ((with_reducible refine hN3.mono ?_)); rintro en wb ⟨v2, rfl, g3, g4⟩
       obtain ⟨s1, l1, n1, c1', e1, rfl⟩ := g1.form
       obtain ⟨s2, l2, n2, c2', e2, rfl⟩ := g3.form
       have hS2 := hS.out _ _ _ _ _ _ _ _ _ _ _ (ta.trans' g4) (g1.still g4) g3
       have t5 := (g4.alloc (.cells #[.bool s1, .slice l1 n1 c1', .int .i64 e1, .bool s2, .slice l2 n2 c2', .int .i64 e2] 53))
       have d0 := (t5.cell (p := ⟨w.heap.size, 0, none⟩) hl2 id).trans c0
       have d1 := (t5.cell (p := ⟨w.heap.size, 1, none⟩) hl2 id).trans c1
       have d2 := (t5.cell (p := ⟨w.heap.size, 2, none⟩) hl2 id).trans c2
       have hl3 := Nat.lt_of_lt_of_le hl2 t5.size
       have t6 := ta.trans' t5
       clear hN3 g1 g2 g3 g4 c0 c1 c2 t5)
    | (go_at_call 74; ((with_reducible refine hS2.mono ?_)); rintro en wc ⟨v3, rfl, g5, g6⟩
       obtain ⟨s3, l3, n3, c3, e3, rfl⟩ := g5.form
       have t7 := g6.alloc (.cells #[.bool s3, .slice l3 n3 c3, .int .i64 e3] 53)
       have t8 := (Turn.refl (fun _ => False) wc).alloc (.cells #[.bool s3, .slice l3 n3 c3, .int .i64 e3] 53)
       have y0 := (t7.cell (p := ⟨w.heap.size, 0, none⟩) hl3 id).trans d0
       have y1 := (t7.cell (p := ⟨w.heap.size, 1, none⟩) hl3 id).trans d1
       have y2 := (t7.cell (p := ⟨w.heap.size, 2, none⟩) hl3 id).trans d2
       have hC2 := hC.out _ _ (t6.trans' t7) (g5.still t8)
       have t9 := Lib.hid (t6.trans' t7)
       clear hS2 g5 g6 d0 d1 d2 t6 t7 t8)
    | (go_at_call 166; ((with_reducible refine hC2.mono ?_)); rintro en wd ⟨rfl, g7⟩))
  go_ret
  exact ⟨rfl, t9.out.trans' g7⟩
end
section
open Go.RowKit
set_option maxRecDepth 100000 in
set_option maxHeartbeats 2000000 in
theorem esum_any (h l a b : Nat) (w : World) (hh : Fin64 h) (hl : Fin64 l) (ha : Fin64 a) (hb : Fin64 b) (hX : fv h + fv l = fv a + fv b) (hT : Tab w) :
    Calls Tryz.prog 114 #[.float .f64 h, .float .f64 l, .float .f64 a, .float .f64 b] w fun e w' => e = .returned (.bool true) ∧ Turn (fun _ => False) w w' := by
  have t1 := (Turn.refl (fun _ => False) w).alloc (.cells #[.float .f64 a, .float .f64 b, .float .f64 h, .float .f64 l] 57)
  have k0 := fun i => cell_made #[.float .f64 a, .float .f64 b, .float .f64 h, .float .f64 l] 57 w i
  have hF := finite_all w.heap.size 4 4 (fun i => if i = 0 then a else if i = 1 then b else if i = 2 then h else l) (w.alloc (.cells #[.float .f64 a, .float .f64 b, .float .f64 h, .float .f64 l] 57)) (by omega) (fun i hi => by
    rcases (by omega : i = 0 ∨ i = 1 ∨ i = 2 ∨ i = 3) with rfl | rfl | rfl | rfl
    · exact ⟨k0 0, ha⟩
    · exact ⟨k0 1, hb⟩
    · exact ⟨k0 2, hh⟩
    · exact ⟨k0 3, hl⟩)
  have hN1 := num_any a (w.alloc (.cells #[.float .f64 a, .float .f64 b, .float .f64 h, .float .f64 l] 57)) ha (hT.still t1)
  have hN2 := fun wa (t : Turn (fun _ => False) w wa) => num_any b wa hb (hT.still t)
  have hA : ∀ wb va vb, Turn (fun _ => False) w wb → NumK wb va 1074 (fv a) → NumK wb vb 1074 (fv b) → Calls Tryz.prog 151 #[va, vb] wb (KRes2 wb 1074 (fv a + fv b)) := fun wb va vb t h1 h2 =>
    dAdd_any va vb 1074 _ _ wb (by omega) h1 h2 (Nat.lt_trans (fv_bound ha) (Nat.pow_lt_pow_right (by omega) (by omega))) (Nat.lt_trans (fv_bound hb) (Nat.pow_lt_pow_right (by omega) (by omega))) (hT.still t)
  have hJ : ∀ wb v, Turn (fun _ => False) w wb → NumK wb v 1074 (fv a + fv b) → Calls Tryz.prog 140 #[.float .f64 h, .float .f64 l, v] wb fun e w' => e = .returned (.bool true) ∧ Turn (fun _ => False) wb w' := fun wb v t hv =>
    just_any h l v 0 _ wb hh hl hv (by omega) (by rw [Int.pow_zero, Int.mul_one]; exact hX) (hT.still t)
  replace hN2 := Lib.hid hN2
  replace hA := Lib.hid hA
  replace hJ := Lib.hid hJ
  replace t1 := Lib.hid t1
  clear hh hl ha hb hX hT k0
  go_enter Tryz.func114, Tryz.ntmps114
  go_wp2_with (first
    | (go_at_call 138; ((with_reducible refine hF.mono ?_)); rintro en wa ⟨rfl, rfl⟩)
    | (go_at_call 139; ((with_reducible refine hN1.mono ?_)); rintro en wa ⟨v1, rfl, g1, g2⟩
       have ta := t1.out.trans' g2
       have hN3 := hN2.out wa ta
       clear hN1)
    | (go_at_call 139; ((with_reducible refine hN3.mono ?_)); rintro en wb ⟨v2, rfl, g3, g4⟩
       have tb := ta.trans' g4
       have hA2 := hA.out _ _ _ tb (g1.still g4) g3
       clear hN3 g1 g2 g3 g4 ta)
    | (go_at_call 151; ((with_reducible refine hA2.mono ?_)); rintro en wc ⟨v3, rfl, g5, g6⟩
       obtain ⟨s3, l3, n3, c3, e3, rfl⟩ := g5.form
       have t7 := g6.alloc (.cells #[.bool s3, .slice l3 n3 c3, .int .i64 e3] 53)
       have t8 := (Turn.refl (fun _ => False) wc).alloc (.cells #[.bool s3, .slice l3 n3 c3, .int .i64 e3] 53)
       have hJ2 := hJ.out _ _ (tb.trans' t7) (g5.still t8)
       have t9 := Lib.hid (tb.trans' t7)
       clear hA2 g5 g6 tb t7 t8)
    | (go_at_call 140; ((with_reducible refine hJ2.mono ?_)); rintro en wd ⟨rfl, g7⟩))
  go_ret
  exact ⟨rfl, t9.out.trans' g7⟩
theorem rn_mid {z : Int} {N : Nat} (h : z.natAbs < 2 ^ N) (hN : N ≤ 2094) : (rn z).natAbs < 9007199254740992 * 2 ^ 2045 ∧ (rn z).natAbs ≤ 2 ^ N := by
  rw [rn_abs]
  have h1 : rnN z.natAbs ≤ 2 ^ N := by
    have := rnN_mono (Nat.le_of_lt h)
    rw [rnN_rep (n := 2 ^ N) ⟨1, N, (Nat.one_mul _).symm, by omega⟩] at this
    exact this
  refine ⟨Nat.lt_of_le_of_lt h1 ?_, h1⟩
  rw [show (9007199254740992 : Nat) = 2 ^ 53 by decide, ← Nat.pow_add]
  exact Nat.pow_lt_pow_right (by omega) (by omega)
def FV (n : Nat) (z : Int) : Prop := Fin64 n ∧ fv n = z
theorem fadd {x y : Nat} {a b : Int} {N : Nat} (hx : FV x a) (hy : FV y b) (h : (a + b).natAbs < 2 ^ N) (hN : N ≤ 2094) : ∃ r, floatBits .add .f64 x y = some r ∧ FV r (rn (a + b)) := by
  obtain ⟨h1, rfl⟩ := hx
  obtain ⟨h2, rfl⟩ := hy
  obtain ⟨r, e1, e2, e3⟩ := add_word h1 h2 (rn_mid h hN).1
  exact ⟨r, e1, e2, e3⟩
theorem fsub {x y : Nat} {a b : Int} {N : Nat} (hx : FV x a) (hy : FV y b) (h : (a - b).natAbs < 2 ^ N) (hN : N ≤ 2094) : ∃ r, floatBits .sub .f64 x y = some r ∧ FV r (rn (a - b)) := by
  obtain ⟨h1, rfl⟩ := hx
  obtain ⟨h2, rfl⟩ := hy
  obtain ⟨r, e1, e2, e3⟩ := sub_word h1 h2 (rn_mid h hN).1
  exact ⟨r, e1, e2, e3⟩
theorem FV.rep {n : Nat} {z : Int} (h : FV n z) : Rep z := by
  obtain ⟨hf, rfl⟩ := h
  unfold Rep
  rw [fv_abs, fv_mant n hf]
  exact ⟨mant n, _, rfl, by have := mant_lt n; omega⟩
theorem two_words {x y : Nat} {a b : Int} (hx : FV x a) (hy : FV y b) (ha : a.natAbs < 2 ^ 2080) (hb : b.natAbs < 2 ^ 2080) :
    ∃ h v w u y2 l, floatBits .add .f64 x y = some h ∧ floatBits .sub .f64 h x = some v ∧ floatBits .sub .f64 h v = some w ∧ floatBits .sub .f64 x w = some u ∧ floatBits .sub .f64 y v = some y2 ∧ floatBits .add .f64 u y2 = some l ∧ FV h (rn (a + b)) ∧ FV l (a + b - rn (a + b)) := by
  have p1 : (2 : Nat) ^ 2081 = 2 * 2 ^ 2080 := by rw [Nat.pow_succ, Nat.mul_comm]
  have p2 : (2 : Nat) ^ 2082 = 4 * 2 ^ 2080 := by rw [show 2082 = 2080 + 1 + 1 from rfl, Nat.pow_succ, Nat.pow_succ] <;> omega
  have p3 : (2 : Nat) ^ 2083 = 8 * 2 ^ 2080 := by rw [show 2083 = 2080 + 1 + 1 + 1 from rfl, Nat.pow_succ, Nat.pow_succ, Nat.pow_succ] <;> omega
  have p4 : (2 : Nat) ^ 2084 = 16 * 2 ^ 2080 := by rw [show 2084 = 2080 + 1 + 1 + 1 + 1 from rfl, Nat.pow_succ, Nat.pow_succ, Nat.pow_succ, Nat.pow_succ] <;> omega
  have p5 : (2 : Nat) ^ 2085 = 32 * 2 ^ 2080 := by rw [show 2085 = 2080 + 1 + 1 + 1 + 1 + 1 from rfl, Nat.pow_succ, Nat.pow_succ, Nat.pow_succ, Nat.pow_succ, Nat.pow_succ] <;> omega
  have h1 : (a + b).natAbs < 2 ^ 2081 := by rw [p1]; generalize 2 ^ 2080 = W at *; omega
  obtain ⟨h, e1, f1⟩ := fadd hx hy h1 (by omega)
  have b1 := (rn_mid h1 (by omega)).2
  have h2 : (rn (a + b) - a).natAbs < 2 ^ 2082 := by rw [p1] at b1; rw [p2]; generalize 2 ^ 2080 = W at *; omega
  obtain ⟨v, e2, f2⟩ := fsub f1 hx h2 (by omega)
  have b2 := (rn_mid h2 (by omega)).2
  have h3 : (rn (a + b) - rn (rn (a + b) - a)).natAbs < 2 ^ 2083 := by rw [p1] at b1; rw [p2] at b2; rw [p3]; generalize 2 ^ 2080 = W at *; omega
  obtain ⟨w, e3, f3⟩ := fsub f1 f2 h3 (by omega)
  have b3 := (rn_mid h3 (by omega)).2
  have h4 : (a - rn (rn (a + b) - rn (rn (a + b) - a))).natAbs < 2 ^ 2084 := by rw [p3] at b3; rw [p4]; generalize 2 ^ 2080 = W at *; omega
  obtain ⟨u, e4, f4⟩ := fsub hx f3 h4 (by omega)
  have b4 := (rn_mid h4 (by omega)).2
  have h5 : (b - rn (rn (a + b) - a)).natAbs < 2 ^ 2083 := by rw [p2] at b2; rw [p3]; generalize 2 ^ 2080 = W at *; omega
  obtain ⟨y2, e5, f5⟩ := fsub hy f2 h5 (by omega)
  have b5 := (rn_mid h5 (by omega)).2
  have h6 : (rn (a - rn (rn (a + b) - rn (rn (a + b) - a))) + rn (b - rn (rn (a + b) - a))).natAbs < 2 ^ 2085 := by rw [p4] at b4; rw [p3] at b5; rw [p5]; generalize 2 ^ 2080 = W at *; omega
  obtain ⟨l, e6, f6⟩ := fadd f4 f5 h6 (by omega)
  rw [two_sum hx.rep hy.rep] at f6
  exact ⟨h, v, w, u, y2, l, e1, e2, e3, e4, e5, e6, f1, f6⟩
set_option maxRecDepth 100000 in
theorem twoSum_any (x y : Nat) (a b : Int) (hx : FV x a) (hy : FV y b) (ha : a.natAbs < 2 ^ 2080) (hb : b.natAbs < 2 ^ 2080) :
    ∃ h l, FV h (rn (a + b)) ∧ FV l (a + b - rn (a + b)) ∧ ∀ w, Calls Tryz.prog 113 #[.float .f64 x, .float .f64 y] w fun e w' => e = .returned (.tuple #[.float .f64 h, .float .f64 l]) ∧ w = w' := by
  obtain ⟨h, v, w9, u, y2, l, e1, e2, e3, e4, e5, e6, fh, fl⟩ := two_words hx hy ha hb
  refine ⟨h, l, fh, fl, fun w => ?_⟩
  have r1 : ∀ w, (binOp .add 57 (.float .f64 x) (.float .f64 y)).run Tryz.prog w = .ok (.float .f64 h) w := fun w => run_float_arith w .add 57 .f64 _ _ _ e1
  have r2 : ∀ w, (binOp .sub 57 (.float .f64 h) (.float .f64 x)).run Tryz.prog w = .ok (.float .f64 v) w := fun w => run_float_arith w .sub 57 .f64 _ _ _ e2
  have r3 : ∀ w, (binOp .sub 57 (.float .f64 h) (.float .f64 v)).run Tryz.prog w = .ok (.float .f64 w9) w := fun w => run_float_arith w .sub 57 .f64 _ _ _ e3
  have r4 : ∀ w, (binOp .sub 57 (.float .f64 x) (.float .f64 w9)).run Tryz.prog w = .ok (.float .f64 u) w := fun w => run_float_arith w .sub 57 .f64 _ _ _ e4
  have r5 : ∀ w, (binOp .sub 57 (.float .f64 y) (.float .f64 v)).run Tryz.prog w = .ok (.float .f64 y2) w := fun w => run_float_arith w .sub 57 .f64 _ _ _ e5
  have r6 : ∀ w, (binOp .add 57 (.float .f64 u) (.float .f64 y2)).run Tryz.prog w = .ok (.float .f64 l) w := fun w => run_float_arith w .add 57 .f64 _ _ _ e6
  clear e1 e2 e3 e4 e5 e6 fh fl hx hy ha hb
  go_enter Tryz.func113, Tryz.ntmps113
  go_wp2
  go_ret2
  exact ⟨rfl, rfl⟩
def Step (w : World) (H L : Int) (en : Ending) (w' : World) : Prop := ∃ h l, en = .returned (.tuple #[.int .i64 (iw h), .int .i64 (iw l), .bool true]) ∧ FV h H ∧ FV l L ∧ Turn (fun _ => False) w w'
set_option maxRecDepth 100000 in
set_option maxHeartbeats 1000000 in
theorem TwoSum_any (x y : Nat) (a b : Int) (w : World) (hx : FV x a) (hy : FV y b) (ha : a.natAbs < 2 ^ 2080) (hb : b.natAbs < 2 ^ 2080) (hT : Tab w) :
    Calls Tryz.prog 78 #[.int .i64 (iw x), .int .i64 (iw y)] w (Step w (rn (a + b)) (a + b - rn (a + b))) := by
  obtain ⟨h, l, fh, fl, hS⟩ := twoSum_any x y a b hx hy ha hb
  have c1 := Float_any x w hx.1.1
  have c2 := Float_any y w hy.1.1
  have c3 := bOf_any h w fh.1.nn
  have c4 := bOf_any l w fl.1.nn
  have c5 := esum_any h l x y w fh.1 fl.1 hx.1 hy.1 (by rw [fh.2, fl.2, hx.2, hy.2]; omega) hT
  have hS := hS w
  have hf := Lib.hid (show ∀ w', Turn (fun _ => False) w w' → Step w (rn (a + b)) (a + b - rn (a + b)) (.returned (.tuple #[.int .i64 (iw h), .int .i64 (iw l), .bool true])) w' from fun w' t => ⟨h, l, rfl, fh, fl, t⟩)
  clear hx hy ha hb hT fh fl
  go_enter Tryz.func78, Tryz.ntmps78
  go_wp2_with (first
    | (go_at_call 61; ((with_reducible refine c1.mono ?_)); rintro en wa ⟨rfl, rfl⟩)
    | (go_at_call 61; ((with_reducible refine c2.mono ?_)); rintro en wa ⟨rfl, rfl⟩)
    | (go_at_call 113; ((with_reducible refine hS.mono ?_)); rintro en wa ⟨rfl, rfl⟩)
    | (go_at_call 59; ((with_reducible refine c3.mono ?_)); rintro en wa ⟨rfl, rfl⟩)
    | (go_at_call 59; ((with_reducible refine c4.mono ?_)); rintro en wa ⟨rfl, rfl⟩)
    | (go_at_call 114; ((with_reducible refine c5.mono ?_)); rintro en wb ⟨rfl, t⟩))
  go_returns
  exact hf.out _ t
set_option maxRecDepth 100000 in
set_option maxHeartbeats 1000000 in
theorem TwoDiff_any (x y : Nat) (a b : Int) (w : World) (hx : FV x a) (hy : FV y b) (ha : a.natAbs < 2 ^ 2080) (hb : b.natAbs < 2 ^ 2080) (hT : Tab w) :
    Calls Tryz.prog 52 #[.int .i64 (iw x), .int .i64 (iw y)] w (Step w (rn (a - b)) (a - b - rn (a - b))) := by
  have c1 := Neg_word y w hy.1.nn
  have c2 := TwoSum_any x (opp y) a (-b) w hx ⟨hy.1.opp, by rw [fv_opp hy.1.1, hy.2]⟩ ha (by rw [Int.natAbs_neg]; exact hb) hT
  rw [← Int.sub_eq_add_neg] at c2
  clear hx hy ha hb hT
  go_enter Tryz.func52, Tryz.ntmps52
  go_wp2_with (first
    | (go_at_call 73; ((with_reducible refine c1.mono ?_)); rintro en wa ⟨rfl, rfl⟩)
    | (go_at_call 78; ((with_reducible refine c2.mono ?_)); rintro en wa ⟨h, l, rfl, g1, g2, g3⟩))
  go_returns
  exact ⟨h, l, rfl, g1, g2, g3⟩
set_option maxRecDepth 100000 in
set_option maxHeartbeats 1000000 in
theorem FastTwoSum_any (x y : Nat) (a b : Int) (w : World) (hx : FV x a) (hy : FV y b) (hab : b.natAbs ≤ a.natAbs) (ha : a.natAbs < 2 ^ 2080) (hT : Tab w) :
    Calls Tryz.prog 103 #[.int .i64 (iw x), .int .i64 (iw y)] w (Step w (rn (a + b)) (a + b - rn (a + b))) := by
  have p1 : (2 : Nat) ^ 2081 = 2 * 2 ^ 2080 := by rw [Nat.pow_succ, Nat.mul_comm]
  have p2 : (2 : Nat) ^ 2082 = 4 * 2 ^ 2080 := by rw [show 2082 = 2080 + 1 + 1 from rfl, Nat.pow_succ, Nat.pow_succ] <;> omega
  have p3 : (2 : Nat) ^ 2083 = 8 * 2 ^ 2080 := by rw [show 2083 = 2080 + 1 + 1 + 1 from rfl, Nat.pow_succ, Nat.pow_succ, Nat.pow_succ] <;> omega
  have h1 : (a + b).natAbs < 2 ^ 2081 := by rw [p1]; generalize 2 ^ 2080 = W at *; omega
  obtain ⟨h, e1, f1⟩ := fadd hx hy h1 (by omega)
  have b1 := (rn_mid h1 (by omega)).2
  have h2 : (rn (a + b) - a).natAbs < 2 ^ 2082 := by rw [p1] at b1; rw [p2]; generalize 2 ^ 2080 = W at *; omega
  obtain ⟨v, e2, f2⟩ := fsub f1 hx h2 (by omega)
  have b2 := (rn_mid h2 (by omega)).2
  have h3 : (b - rn (rn (a + b) - a)).natAbs < 2 ^ 2083 := by rw [p2] at b2; rw [p3]; generalize 2 ^ 2080 = W at *; omega
  obtain ⟨l, e3, f3⟩ := fsub hy f2 h3 (by omega)
  rw [fast_two_sum hx.rep hy.rep hab] at f3
  have r1 : ∀ w, (binOp .add 57 (.float .f64 x) (.float .f64 y)).run Tryz.prog w = .ok (.float .f64 h) w := fun w => run_float_arith w .add 57 .f64 _ _ _ e1
  have r2 : ∀ w, (binOp .sub 57 (.float .f64 h) (.float .f64 x)).run Tryz.prog w = .ok (.float .f64 v) w := fun w => run_float_arith w .sub 57 .f64 _ _ _ e2
  have r3 : ∀ w, (binOp .sub 57 (.float .f64 y) (.float .f64 v)).run Tryz.prog w = .ok (.float .f64 l) w := fun w => run_float_arith w .sub 57 .f64 _ _ _ e3
  have c1 := Float_any x w hx.1.1
  have c2 := Float_any y w hy.1.1
  have c3 := bOf_any h w f1.1.nn
  have c4 := bOf_any l w f3.1.nn
  have c5 := esum_any h l x y w f1.1 f3.1 hx.1 hy.1 (by rw [f1.2, f3.2, hx.2, hy.2]; omega) hT
  have hf := Lib.hid (show ∀ w', Turn (fun _ => False) w w' → Step w (rn (a + b)) (a + b - rn (a + b)) (.returned (.tuple #[.int .i64 (iw h), .int .i64 (iw l), .bool true])) w' from fun w' t => ⟨h, l, rfl, f1, f3, t⟩)
  clear hx hy ha hab hT f1 f2 f3 e1 e2 e3 h1 h2 h3 b1 b2 p1 p2 p3
  go_enter Tryz.func103, Tryz.ntmps103
  go_wp2_with (first
    | (go_at_call 61; ((with_reducible refine c1.mono ?_)); rintro en wa ⟨rfl, rfl⟩)
    | (go_at_call 61; ((with_reducible refine c2.mono ?_)); rintro en wa ⟨rfl, rfl⟩)
    | (go_at_call 59; ((with_reducible refine c3.mono ?_)); rintro en wa ⟨rfl, rfl⟩)
    | (go_at_call 59; ((with_reducible refine c4.mono ?_)); rintro en wa ⟨rfl, rfl⟩)
    | (go_at_call 114; ((with_reducible refine c5.mono ?_)); rintro en wb ⟨rfl, t⟩))
  go_returns
  exact hf.out _ t
end
end Go.Proofs.YtllapbkoildfiaaGreatFmt
