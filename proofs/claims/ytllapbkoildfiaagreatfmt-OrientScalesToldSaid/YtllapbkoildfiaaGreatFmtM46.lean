/- orient: tame, the whole walk · orient: tame of tame points. -/
import Derived.Test.YtllapbkoildfiaaGreatFmtM42
import Derived.Test.YtllapbkoildfiaaGreatFmtM44
import Derived.Deep.RegionHeld3
import Derived.Deep.Cut
import Derived.Deep.CutRange
set_option linter.all false
set_option exponentiation.threshold 100000
namespace Go.Proofs.YtllapbkoildfiaaGreatFmt
section
open Go.RowKit
def Bad (l r : Nat) : Prop := rk l = 0 ∨ 0 < rk l ∧ rk r ≤ 0 ∨ rk l < 0 ∧ 0 ≤ rk r
theorem beq_zero {x : Nat} {z : Int} (h : FV x z) : (FloatKind.f64.format.order x 0 == some .eq) = decide (z = 0) := by
  rw [beq_eq h.1.nn nought_f.1, rk_zero]
  exact decide_eq_decide.2 (rk_fv_zero h)
instance (l r : Nat) : Decidable (Bad l r) := by unfold Bad; infer_instance
set_option maxRecDepth 100000 in
set_option maxHeartbeats 8000000 in
theorem tame_gen {X1 Y1 X2 Y2 X3 Y3 : Int} {p1 q1 p2 q2 p3 q3 u1 v1 u2 v2 l r d s za zb zc : Nat} {g sg N t1 t2 t3 t4 : Int} {E1 E2 E3 E4 M1 M2 M3 A1 A2 A3 A4 K1 K2 K3 : List Int} {dd : Nat} (w : World) (h : TmH X1 Y1 X2 Y2 X3 Y3 p1 q1 p2 q2 p3 q3 u1 v1 u2 v2 l r d) (hl : NN l) (hr : NN r) (hd : NN d)
    (hB : Bad l r → sgn (rk d) = g)
    (hs : floatBits .add .f64 (l % 9223372036854775808) (r % 9223372036854775808) = some s) (hza : floatBits .mul .f64 4375247037990436868 s = some za) (hzan : NN za) (hzb : floatBits .mul .f64 4372995238176751619 s = some zb) (hzbn : NN zb)
    (hA : ¬ Bad l r → rk za ≤ rk (d % 9223372036854775808) → sgn (rk d) = g)
    (hO1 : ¬ Bad l r → ∀ W, Turn (fun _ => False) w W → Calls Tryz.prog 27 #[.float .f64 u1] W (PL W E1))
    (hO2 : ¬ Bad l r → ∀ W, Turn (fun _ => False) w W → Calls Tryz.prog 27 #[.float .f64 v2] W (PL W E2))
    (hO3 : ¬ Bad l r → ∀ W, Turn (fun _ => False) w W → Calls Tryz.prog 27 #[.float .f64 v1] W (PL W E3))
    (hO4 : ¬ Bad l r → ∀ W, Turn (fun _ => False) w W → Calls Tryz.prog 27 #[.float .f64 u2] W (PL W E4))
    (hM1 : ¬ Bad l r → ∀ W a f c d, Turn (fun _ => False) w W → Ls W a E1 → E1.length ≤ c → Ls W f E2 → E2.length ≤ d → Calls Tryz.prog 28 #[.slice a E1.length c, .slice f E2.length d] W (PL W M1))
    (hM2 : ¬ Bad l r → ∀ W a f c d, Turn (fun _ => False) w W → Ls W a E3 → E3.length ≤ c → Ls W f E4 → E4.length ≤ d → Calls Tryz.prog 28 #[.slice a E3.length c, .slice f E4.length d] W (PL W M2))
    (hM3 : ¬ Bad l r → ∀ W a f c d, Turn (fun _ => False) w W → Ls W a M1 → M1.length ≤ c → Ls W f M2 → M2.length ≤ d → Calls Tryz.prog 29 #[.slice a M1.length c, .slice f M2.length d] W (PL W M3))
    (hNr : ¬ Bad l r → ∀ W a c, Turn (fun _ => False) w W → Ls W a M3 → M3.length ≤ c → Calls Tryz.prog 30 #[.slice a M3.length c] W fun e w' => ∃ r, e = .returned (.float .f64 r) ∧ FV r N ∧ Turn (fun _ => False) W w')
    (hSg : ¬ Bad l r → ∀ W a c, Turn (fun _ => False) w W → Ls W a M3 → M3.length ≤ c → Calls Tryz.prog 31 #[.slice a M3.length c] W fun e w' => e = .returned (.int .i64 sg) ∧ Turn (fun _ => False) W w')
    (hdd : NN (floatOfInt .f64 sg)) (hB2 : ¬ Bad l r → ∀ near, FV near N → rk zb ≤ rk (near % 9223372036854775808) → sgn (rk (floatOfInt .f64 sg)) = g)
    (hT1 : ¬ Bad l r → ∀ W, Turn (fun _ => False) w W → Calls Tryz.prog 32 #[.int .i64 X1, .int .i64 X3, .float .f64 u1] W fun e w' => ∃ x, e = .returned (.float .f64 x) ∧ FV x t1 ∧ Turn (fun _ => False) W w')
    (hT2 : ¬ Bad l r → ∀ W, Turn (fun _ => False) w W → Calls Tryz.prog 32 #[.int .i64 Y1, .int .i64 Y3, .float .f64 v1] W fun e w' => ∃ x, e = .returned (.float .f64 x) ∧ FV x t2 ∧ Turn (fun _ => False) W w')
    (hT3 : ¬ Bad l r → ∀ W, Turn (fun _ => False) w W → Calls Tryz.prog 32 #[.int .i64 X2, .int .i64 X3, .float .f64 u2] W fun e w' => ∃ x, e = .returned (.float .f64 x) ∧ FV x t3 ∧ Turn (fun _ => False) W w')
    (hT4 : ¬ Bad l r → ∀ W, Turn (fun _ => False) w W → Calls Tryz.prog 32 #[.int .i64 Y2, .int .i64 Y3, .float .f64 v2] W fun e w' => ∃ x, e = .returned (.float .f64 x) ∧ FV x t4 ∧ Turn (fun _ => False) W w')
    (hN0 : ¬ Bad l r → t1 = 0 ∧ t2 = 0 ∧ t3 = 0 ∧ t4 = 0 → sgn (rk (floatOfInt .f64 sg)) = g)
    (hzc : floatBits .mul .f64 4143874607134277636 s = some zc)
    (hC : ¬ Bad l r → ∀ near x1 x2 x3 x4, FV near N → FV x1 t1 → FV x2 t2 → FV x3 t3 → FV x4 t4 → ∃ zk bd m1 m2 m3 m4 s1 s2 s3 dC, floatBits .mul .f64 4375247037990436866 (near % 9223372036854775808) = some zk ∧ floatBits .add .f64 zc zk = some bd ∧ floatBits .mul .f64 u1 x4 = some m1 ∧ floatBits .mul .f64 v2 x1 = some m2 ∧ floatBits .add .f64 m1 m2 = some s1 ∧ floatBits .mul .f64 v1 x3 = some m3 ∧ floatBits .mul .f64 u2 x2 = some m4 ∧ floatBits .add .f64 m3 m4 = some s2 ∧ floatBits .sub .f64 s1 s2 = some s3 ∧ floatBits .add .f64 near s3 = some dC ∧ NN bd ∧ NN dC ∧ (rk bd ≤ rk (dC % 9223372036854775808) → sgn (rk dC) = g))
    (hD1 : ¬ Bad l r → ∀ W, Turn (fun _ => False) w W → Calls Tryz.prog 33 #[.int .i64 X1, .int .i64 X3] W (PL W A1))
    (hD2 : ¬ Bad l r → ∀ W, Turn (fun _ => False) w W → Calls Tryz.prog 33 #[.int .i64 Y2, .int .i64 Y3] W (PL W A2))
    (hD3 : ¬ Bad l r → ∀ W, Turn (fun _ => False) w W → Calls Tryz.prog 33 #[.int .i64 Y1, .int .i64 Y3] W (PL W A3))
    (hD4 : ¬ Bad l r → ∀ W, Turn (fun _ => False) w W → Calls Tryz.prog 33 #[.int .i64 X2, .int .i64 X3] W (PL W A4))
    (hQ1 : ¬ Bad l r → ∀ W a f c d, Turn (fun _ => False) w W → Ls W a A1 → A1.length ≤ c → Ls W f A2 → A2.length ≤ d → Calls Tryz.prog 28 #[.slice a A1.length c, .slice f A2.length d] W (PL W K1))
    (hQ2 : ¬ Bad l r → ∀ W a f c d, Turn (fun _ => False) w W → Ls W a A3 → A3.length ≤ c → Ls W f A4 → A4.length ≤ d → Calls Tryz.prog 28 #[.slice a A3.length c, .slice f A4.length d] W (PL W K2))
    (hQ3 : ¬ Bad l r → ∀ W a f c d, Turn (fun _ => False) w W → Ls W a K1 → K1.length ≤ c → Ls W f K2 → K2.length ≤ d → Calls Tryz.prog 29 #[.slice a K1.length c, .slice f K2.length d] W (PL W K3))
    (hQ4 : ¬ Bad l r → ∀ W a c, Turn (fun _ => False) w W → Ls W a K3 → K3.length ≤ c → Calls Tryz.prog 31 #[.slice a K3.length c] W fun e w' => e = .returned (.int .i64 g) ∧ Turn (fun _ => False) W w') :
    Calls Tryz.prog 14 #[spv X1 Y1, spv X2 Y2, spv X3 Y3] w (StR w g) := by
  obtain ⟨g1, g2, g3, g4, g5, g6, a1, a2, a3, a4, a5, a6, a7⟩ := h
  have k1 := fun (t : TypeId) (w : World) => run_float_arith (P := Tryz.prog) (w := w) .sub t .f64 _ _ _ a1
  have k2 := fun (t : TypeId) (w : World) => run_float_arith (P := Tryz.prog) (w := w) .sub t .f64 _ _ _ a2
  have k3 := fun (t : TypeId) (w : World) => run_float_arith (P := Tryz.prog) (w := w) .sub t .f64 _ _ _ a3
  have k4 := fun (t : TypeId) (w : World) => run_float_arith (P := Tryz.prog) (w := w) .sub t .f64 _ _ _ a4
  have k5 := fun (t : TypeId) (w : World) => run_float_arith (P := Tryz.prog) (w := w) .mul t .f64 _ _ _ a5
  have k6 := fun (t : TypeId) (w : World) => run_float_arith (P := Tryz.prog) (w := w) .mul t .f64 _ _ _ a6
  have k7 := fun (t : TypeId) (w : World) => run_float_arith (P := Tryz.prog) (w := w) .sub t .f64 _ _ _ a7
  clear a1 a2 a3 a4 a5 a6 a7
  have F := TmW.made w X1 Y1 X2 Y2 X3 Y3
  go_enter Tryz.func14, Tryz.ntmps14
  go_wp2_with fail
  generalize World.alloc (World.alloc (World.alloc (World.alloc w _) _) _) _ = W0 at *
  have e0 := F.p.a.c0
  have e1 := F.p.a.c1
  have e2 := F.p.b.c0
  have e3 := F.p.b.c1
  have e4 := F.p.c.c0
  have e5 := F.p.c.c1
  replace F := Lib.hid F
  refine wp_scope_fwd (l := 0) (rest := ?r) ?hf ?h
  case hf => exact rfl
  go_wp2_with fail
  go_quiet (first
    | (go_at_call 25; exact quiet_same (g1 _))
    | (go_at_call 25; exact quiet_same (g2 _))
    | (go_at_call 25; exact quiet_same (g5 _))
    | (go_at_call 25; exact quiet_same (g6 _)))
  replace F := F.out.still ((Turn.refl (fun _ => False) W0).drewN nq)
  clear e0 e1 e2 e3 e4 e5
  generalize W0.drewN nq = W1 at F ⊢
  have e2 := F.p.b.c0
  have e3 := F.p.b.c1
  have e4 := F.p.c.c0
  have e5 := F.p.c.c1
  replace F := Lib.hid F
  go_wp2_with fail
  go_quiet (first
    | (go_at_call 25; exact quiet_same (g3 _))
    | (go_at_call 25; exact quiet_same (g4 _))
    | (go_at_call 25; exact quiet_same (g5 _))
    | (go_at_call 25; exact quiet_same (g6 _)))
  replace F := F.out.still ((Turn.refl (fun _ => False) W1).drewN nq)
  clear e2 e3 e4 e5
  generalize W1.drewN nq = W2 at F ⊢
  replace F := Lib.hid F
  replace hB := Lib.hid hB
  replace hs := Lib.hid hs
  replace hza := Lib.hid hza
  replace hzb := Lib.hid hzb
  replace hA := Lib.hid hA
  replace hO1 := Lib.hid hO1
  replace hO2 := Lib.hid hO2
  replace hO3 := Lib.hid hO3
  replace hO4 := Lib.hid hO4
  replace hM1 := Lib.hid hM1
  replace hM2 := Lib.hid hM2
  replace hM3 := Lib.hid hM3
  replace hNr := Lib.hid hNr
  replace hSg := Lib.hid hSg
  replace hB2 := Lib.hid hB2
  replace hT1 := Lib.hid hT1
  replace hT2 := Lib.hid hT2
  replace hT3 := Lib.hid hT3
  replace hT4 := Lib.hid hT4
  replace hN0 := Lib.hid hN0
  replace hzc := Lib.hid hzc
  replace hC := Lib.hid hC
  replace hD1 := Lib.hid hD1
  replace hD2 := Lib.hid hD2
  replace hD3 := Lib.hid hD3
  replace hD4 := Lib.hid hD4
  replace hQ1 := Lib.hid hQ1
  replace hQ2 := Lib.hid hQ2
  replace hQ3 := Lib.hid hQ3
  replace hQ4 := Lib.hid hQ4
  have o1 := beq_eq hl nought_f.1
  have o2 := beq_gt hl nought_f.1
  have o3 := beq_le hr nought_f.1
  have o4 := beq_lt hl nought_f.1
  have o5 := beq_ge hr nought_f.1
  rw [rk_zero] at o1 o2 o3 o4 o5
  clear g1 g2 g3 g4 g5 g6 k1 k2 k3 k4
  go_upto_region 8 with (fail)
  go_cut [77] from 60 to 77 (fun c wx => c = .bool (decide (Bad l r)) ∧ wx = W2)
  case first =>
    rcases (by omega : rk l = 0 ∨ 0 < rk l ∨ rk l < 0) with c | c | c
    · rw [decide_eq_true c] at o1
      have hb : decide (Bad l r) = true := decide_eq_true (.inl c)
      go_wp2_with fail
      go_meet
      exact ⟨congrArg Value.bool hb.symm, rfl⟩
    · rw [decide_eq_false (by omega)] at o1
      rw [decide_eq_true c] at o2
      rw [decide_eq_false (by omega)] at o4
      by_cases c2 : rk r ≤ 0
      · rw [decide_eq_true c2] at o3
        have hb : decide (Bad l r) = true := decide_eq_true (.inr (.inl ⟨c, c2⟩))
        go_wp2_with fail
        go_meet
        exact ⟨congrArg Value.bool hb.symm, rfl⟩
      · rw [decide_eq_false c2] at o3
        have hb : decide (Bad l r) = false := decide_eq_false (by unfold Bad; omega)
        go_wp2_with fail
        go_meet
        exact ⟨congrArg Value.bool hb.symm, rfl⟩
    · rw [decide_eq_false (by omega)] at o1
      rw [decide_eq_false (by omega)] at o2
      rw [decide_eq_true c] at o4
      by_cases c2 : 0 ≤ rk r
      · rw [decide_eq_true c2] at o5
        have hb : decide (Bad l r) = true := decide_eq_true (.inr (.inr ⟨c, c2⟩))
        go_wp2_with fail
        go_meet
        exact ⟨congrArg Value.bool hb.symm, rfl⟩
      · rw [decide_eq_false c2] at o5
        have hb : decide (Bad l r) = false := decide_eq_false (by unfold Bad; omega)
        go_wp2_with fail
        go_meet
        exact ⟨congrArg Value.bool hb.symm, rfl⟩
  case rest =>
    obtain ⟨rfl, rfl⟩ := hcut
    clear o1 o2 o3 o4 o5 k5 k6 k7
    by_cases hb : Bad l r
    · have hb2 : decide (Bad l r) = true := decide_eq_true hb
      have hg := Lib.hid (hB.out hb)
      have z0 := F.out.r.c0
      have z1 := F.out.r.c1
      have z2 := F.out.r.fz 0
      have z3 := F.out.r.fz 1
      obtain ⟨⟨y0, y1⟩, hp⟩ := F.out.r.put (sgn (rk d)) 1
      replace hp := Lib.hid hp
      have hSS := fun w => SignOf_any d w hd
      go_wp2_with fail
      go_step3
      refine And.intro (rfl : (0 : Nat) = 0) ?_
      change Code.wp _ _ _ _ _
      go_wp2_with (go_at_call 34; ((with_reducible refine (hSS _).mono ?_)); rintro en wa ⟨rfl, rfl⟩)
      rw [Exit.noGoto_ret]
      refine bodyPost_ret (v := .agg #[.int .i64 (sgn (rk d)), .int .i64 1]) (by simp [results, Tryz.results14, go_sem, y0, y1]) rfl ?_
      exact ⟨1, by rw [hg.out], F.out.p.turn.trans hp.out fun k hk e => by (have : k = w.heap.size + 1 + 1 + 1 := e; omega)⟩
    · have hb2 : decide (Bad l r) = false := decide_eq_false hb
      replace hA := Lib.hid (hA.out hb)
      have a1 := fun w => fAbs_any l w hl.1
      have a2 := fun w => fAbs_any r w hr.1
      have a3 := fun w => fAbs_any d w hd.1
      have k8 := fun (t : TypeId) (w : World) => run_float_arith (P := Tryz.prog) (w := w) .add t .f64 _ _ _ hs.out
      have k9 := fun (t : TypeId) (w : World) => run_float_arith (P := Tryz.prog) (w := w) .mul t .f64 _ _ _ hza.out
      have o6 := beq_ge (abs_nn hd) hzan
      by_cases hA1 : rk za ≤ rk (d % 9223372036854775808)
      · rw [decide_eq_true hA1] at o6
        have hg := Lib.hid (hA.out hA1)
        go_upto_region 11 with (first
          | (go_at_call 26; ((with_reducible refine (a1 _).mono ?_)); rintro en wa ⟨rfl, rfl⟩)
          | (go_at_call 26; ((with_reducible refine (a2 _).mono ?_)); rintro en wa ⟨rfl, rfl⟩)
          | (go_at_call 26; ((with_reducible refine (a3 _).mono ?_)); rintro en wa ⟨rfl, rfl⟩))
        have z0 := F.out.r.c0
        have z1 := F.out.r.c1
        have z2 := F.out.r.fz 0
        have z3 := F.out.r.fz 1
        obtain ⟨⟨y0, y1⟩, hp⟩ := F.out.r.put (sgn (rk d)) 1
        replace hp := Lib.hid hp
        have hSS := fun w => SignOf_any d w hd
        go_wp2_with fail
        go_step3
        refine And.intro (rfl : (0 : Nat) = 0) ?_
        change Code.wp _ _ _ _ _
        go_wp2_with (go_at_call 34; ((with_reducible refine (hSS _).mono ?_)); rintro en wa ⟨rfl, rfl⟩)
        rw [Exit.noGoto_ret]
        refine bodyPost_ret (v := .agg #[.int .i64 (sgn (rk d)), .int .i64 1]) (by simp [results, Tryz.results14, go_sem, y0, y1]) rfl ?_
        exact ⟨1, by rw [hg.out], F.out.p.turn.trans hp.out fun k hk e => by (have : k = w.heap.size + 1 + 1 + 1 := e; omega)⟩
      · rw [decide_eq_false hA1] at o6
        replace hA1 := Lib.hid hA1
        have c1 := hO1.out hb _ F.out.p.turn
        go_upto_region 12 with (first
          | (go_at_call 26; ((with_reducible refine (a1 _).mono ?_)); rintro en wa ⟨rfl, rfl⟩)
          | (go_at_call 26; ((with_reducible refine (a2 _).mono ?_)); rintro en wa ⟨rfl, rfl⟩)
          | (go_at_call 26; ((with_reducible refine (a3 _).mono ?_)); rintro en wa ⟨rfl, rfl⟩))
        go_upto_region 15 with (first
          | (go_at_call 27; ((with_reducible refine c1.mono ?_)); rintro en w1 ⟨b1, n1, rfl, j1, L1, h⟩
             replace F := Lib.hid (F.out.still h)
             have c2 := hO2.out hb _ F.out.p.turn
             replace L1 := Lib.hid L1
             replace j1 := Lib.hid j1
             clear h c1)
          | (go_at_call 27; ((with_reducible refine c2.mono ?_)); rintro en w2 ⟨b2, n2, rfl, j2, L2, h⟩
             replace F := Lib.hid (F.out.still h)
             replace L1 := Lib.hid (L1.out.still h)
             have c3 := hM1.out hb _ _ _ _ _ F.out.p.turn L1.out j1.out L2 j2
             replace L2 := Lib.hid L2
             replace j2 := Lib.hid j2
             clear h c2)
          | (go_at_call 28; ((with_reducible refine c3.mono ?_)); rintro en w3 ⟨b3, n3, rfl, j3, L3, h⟩
             replace F := Lib.hid (F.out.still h)
             have c4 := hO3.out hb _ F.out.p.turn
             replace L3 := Lib.hid L3
             replace j3 := Lib.hid j3
             clear h c3)
          | (go_at_call 27; ((with_reducible refine c4.mono ?_)); rintro en w4 ⟨b4, n4, rfl, j4, L4, h⟩
             replace F := Lib.hid (F.out.still h)
             replace L3 := Lib.hid (L3.out.still h)
             have c5 := hO4.out hb _ F.out.p.turn
             replace L4 := Lib.hid L4
             replace j4 := Lib.hid j4
             clear h c4)
          | (go_at_call 27; ((with_reducible refine c5.mono ?_)); rintro en w5 ⟨b5, n5, rfl, j5, L5, h⟩
             replace F := Lib.hid (F.out.still h)
             replace L3 := Lib.hid (L3.out.still h)
             replace L4 := Lib.hid (L4.out.still h)
             have c6 := hM2.out hb _ _ _ _ _ F.out.p.turn L4.out j4.out L5 j5
             replace L5 := Lib.hid L5
             replace j5 := Lib.hid j5
             clear h c5)
          | (go_at_call 28; ((with_reducible refine c6.mono ?_)); rintro en w6 ⟨b6, n6, rfl, j6, L6, h⟩
             replace F := Lib.hid (F.out.still h)
             replace L3 := Lib.hid (L3.out.still h)
             have c7 := hM3.out hb _ _ _ _ _ F.out.p.turn L3.out j3.out L6 j6
             replace L6 := Lib.hid L6
             replace j6 := Lib.hid j6
             clear h c6)
          | (go_at_call 29; ((with_reducible refine c7.mono ?_)); rintro en w7 ⟨b7, n7, rfl, j7, L7, h⟩
             replace F := Lib.hid (F.out.still h)
             have c8 := hNr.out hb _ _ _ F.out.p.turn L7 j7
             replace L7 := Lib.hid L7
             replace j7 := Lib.hid j7
             clear h c7)
          | (go_at_call 30; ((with_reducible refine c8.mono ?_)); rintro en w8 ⟨near, rfl, hnear, h⟩
             replace F := Lib.hid (F.out.still h)
             replace L7 := Lib.hid (L7.out.still h)
             have c9 := hSg.out hb _ _ _ F.out.p.turn L7.out j7.out
             replace hnear := Lib.hid hnear
             clear h c8)
          | (go_at_call 31; ((with_reducible refine c9.mono ?_)); rintro en w9 ⟨rfl, h⟩
             replace F := Lib.hid (F.out.still h)
             clear h c9))
        have hnr := hnear.out.1.nn
        have a4 := fun w => fAbs_any near w hnr.1
        have k10 := fun (t : TypeId) (w : World) => run_float_arith (P := Tryz.prog) (w := w) .mul t .f64 _ _ _ hzb.out
        have o7 := beq_ge (abs_nn hnr) hzbn
        by_cases hB1 : rk zb ≤ rk (near % 9223372036854775808)
        · rw [decide_eq_true hB1] at o7
          have hg := Lib.hid (hB2.out hb near hnear.out hB1)
          have z0 := F.out.r.c0
          have z1 := F.out.r.c1
          have z2 := F.out.r.fz 0
          have z3 := F.out.r.fz 1
          obtain ⟨⟨y0, y1⟩, hp⟩ := F.out.r.put (sgn (rk (floatOfInt .f64 sg))) 2
          replace hp := Lib.hid hp
          have hSS := fun w => SignOf_any (floatOfInt .f64 sg) w hdd
          go_wp2_with (go_at_call 26; ((with_reducible refine (a4 _).mono ?_)); rintro en wa ⟨rfl, rfl⟩)
          go_step3
          refine And.intro (rfl : (0 : Nat) = 0) ?_
          change Code.wp _ _ _ _ _
          go_wp2_with (go_at_call 34; ((with_reducible refine (hSS _).mono ?_)); rintro en wz ⟨rfl, rfl⟩)
          rw [Exit.noGoto_ret]
          refine bodyPost_ret (v := .agg #[.int .i64 (sgn (rk (floatOfInt .f64 sg))), .int .i64 2]) (by simp [results, Tryz.results14, go_sem, y0, y1]) rfl ?_
          exact ⟨2, by rw [hg.out], F.out.p.turn.trans hp.out fun k hk e => by (have : k = w.heap.size + 1 + 1 + 1 := e; omega)⟩
        · rw [decide_eq_false hB1] at o7
          replace hB1 := Lib.hid hB1
          go_upto_region 16 with (first
            | (go_at_call 26; ((with_reducible refine (a4 _).mono ?_)); rintro en wa ⟨rfl, rfl⟩))
          replace F := Lib.hid (F.out.still (Turn.refl (fun _ => False) w9).drew)
          have q := F.out.p
          have e0 := q.a.c0
          have e1 := q.a.c1
          have e2 := q.b.c0
          have e3 := q.b.c1
          have e4 := q.c.c0
          have e5 := q.c.c1
          have d1 := hT1.out hb _ F.out.p.turn
          clear q
          go_region_held3 (fun wx => wx.cell? ⟨w.heap.size, 0, none⟩ = some (.int .i64 X1) ∧ wx.cell? ⟨w.heap.size, 1, none⟩ = some (.int .i64 Y1) ∧ wx.cell? ⟨w.heap.size + 1, 0, none⟩ = some (.int .i64 X2) ∧ wx.cell? ⟨w.heap.size + 1, 1, none⟩ = some (.int .i64 Y2) ∧ wx.cell? ⟨w.heap.size + 1 + 1, 0, none⟩ = some (.int .i64 X3) ∧ wx.cell? ⟨w.heap.size + 1 + 1, 1, none⟩ = some (.int .i64 Y3))
            (first | (refine ⟨?_, ?_, ?_, ?_, ?_, ?_⟩ <;> with_reducible assumption))
            (first
            | (go_at_call 32; ((with_reducible refine d1.mono ?_)); rintro en w10 ⟨x1, rfl, f1, h⟩
               replace F := Lib.hid (F.out.still h)
               have q := F.out.p
               have e0 := q.a.c0
               have e1 := q.a.c1
               have e2 := q.b.c0
               have e3 := q.b.c1
               have e4 := q.c.c0
               have e5 := q.c.c1
               replace f1 := Lib.hid f1
               have d2 := hT2.out hb _ F.out.p.turn
               clear h d1 q)
            | (go_at_call 32; ((with_reducible refine d2.mono ?_)); rintro en w11 ⟨x2, rfl, f2, h⟩
               replace F := Lib.hid (F.out.still h)
               have q := F.out.p
               have e0 := q.a.c0
               have e1 := q.a.c1
               have e2 := q.b.c0
               have e3 := q.b.c1
               have e4 := q.c.c0
               have e5 := q.c.c1
               replace f2 := Lib.hid f2
               clear h d2 q))
          clear e0 e1 e2 e3 e4 e5
          go_upto_region 17 with (fail)
          replace F := Lib.hid (F.out.still (Turn.refl (fun _ => False) w11).drew)
          have q := F.out.p
          have e0 := q.a.c0
          have e1 := q.a.c1
          have e2 := q.b.c0
          have e3 := q.b.c1
          have e4 := q.c.c0
          have e5 := q.c.c1
          have d3 := hT3.out hb _ F.out.p.turn
          clear q
          go_region_held3 (fun wx => wx.cell? ⟨w.heap.size, 0, none⟩ = some (.int .i64 X1) ∧ wx.cell? ⟨w.heap.size, 1, none⟩ = some (.int .i64 Y1) ∧ wx.cell? ⟨w.heap.size + 1, 0, none⟩ = some (.int .i64 X2) ∧ wx.cell? ⟨w.heap.size + 1, 1, none⟩ = some (.int .i64 Y2) ∧ wx.cell? ⟨w.heap.size + 1 + 1, 0, none⟩ = some (.int .i64 X3) ∧ wx.cell? ⟨w.heap.size + 1 + 1, 1, none⟩ = some (.int .i64 Y3))
            (first | (refine ⟨?_, ?_, ?_, ?_, ?_, ?_⟩ <;> with_reducible assumption))
            (first
            | (go_at_call 32; ((with_reducible refine d3.mono ?_)); rintro en w12 ⟨x3, rfl, f3, h⟩
               replace F := Lib.hid (F.out.still h)
               have q := F.out.p
               have e0 := q.a.c0
               have e1 := q.a.c1
               have e2 := q.b.c0
               have e3 := q.b.c1
               have e4 := q.c.c0
               have e5 := q.c.c1
               replace f3 := Lib.hid f3
               have d4 := hT4.out hb _ F.out.p.turn
               clear h d3 q)
            | (go_at_call 32; ((with_reducible refine d4.mono ?_)); rintro en w13 ⟨x4, rfl, f4, h⟩
               replace F := Lib.hid (F.out.still h)
               have q := F.out.p
               have e0 := q.a.c0
               have e1 := q.a.c1
               have e2 := q.b.c0
               have e3 := q.b.c1
               have e4 := q.c.c0
               have e5 := q.c.c1
               replace f4 := Lib.hid f4
               clear h d4 q))
          clear e0 e1 e2 e3 e4 e5
          obtain ⟨zk, bd, m1, m2, m3, m4, s1, s2, s3, dC, i1, i2, i3, i4, i5, i6, i7, i8, i9, i10, nbd, ndC, hC1⟩ := hC.out hb near x1 x2 x3 x4 hnear.out f1.out f2.out f3.out f4.out
          replace hC1 := Lib.hid hC1
          have v1' := beq_zero f1.out
          have v2' := beq_zero f2.out
          have v3' := beq_zero f3.out
          have v4' := beq_zero f4.out
          go_upto_region 18 with (fail)
          go_cut [146] from 133 to 146 (fun c wx => c = .bool (decide (t1 = 0 ∧ t2 = 0 ∧ t3 = 0 ∧ t4 = 0)) ∧ wx = w13)
          case first =>
            by_cases q1 : t1 = 0
            · rw [decide_eq_true q1] at v1'
              by_cases q2 : t2 = 0
              · rw [decide_eq_true q2] at v2'
                by_cases q3 : t3 = 0
                · rw [decide_eq_true q3] at v3'
                  by_cases q4 : t4 = 0
                  · rw [decide_eq_true q4] at v4'
                    go_wp2_with fail
                    go_meet
                    exact ⟨congrArg Value.bool (decide_eq_true (p := t1 = 0 ∧ t2 = 0 ∧ t3 = 0 ∧ t4 = 0) ⟨q1, q2, q3, q4⟩).symm, rfl⟩
                  · rw [decide_eq_false q4] at v4'
                    go_wp2_with fail
                    go_meet
                    exact ⟨congrArg Value.bool (decide_eq_false (p := t1 = 0 ∧ t2 = 0 ∧ t3 = 0 ∧ t4 = 0) fun h => q4 h.2.2.2).symm, rfl⟩
                · rw [decide_eq_false q3] at v3'
                  go_wp2_with fail
                  go_meet
                  exact ⟨congrArg Value.bool (decide_eq_false (p := t1 = 0 ∧ t2 = 0 ∧ t3 = 0 ∧ t4 = 0) fun h => q3 h.2.2.1).symm, rfl⟩
              · rw [decide_eq_false q2] at v2'
                go_wp2_with fail
                go_meet
                exact ⟨congrArg Value.bool (decide_eq_false (p := t1 = 0 ∧ t2 = 0 ∧ t3 = 0 ∧ t4 = 0) fun h => q2 h.2.1).symm, rfl⟩
            · rw [decide_eq_false q1] at v1'
              go_wp2_with fail
              go_meet
              exact ⟨congrArg Value.bool (decide_eq_false (p := t1 = 0 ∧ t2 = 0 ∧ t3 = 0 ∧ t4 = 0) fun h => q1 h.1).symm, rfl⟩
          case rest =>
            obtain ⟨rfl, rfl⟩ := hcut
            clear v1' v2' v3' v4'
            by_cases hz : t1 = 0 ∧ t2 = 0 ∧ t3 = 0 ∧ t4 = 0
            · have hz2 := decide_eq_true hz
              have hg := Lib.hid (hN0.out hb hz)
              have z0 := F.out.r.c0
              have z1 := F.out.r.c1
              have z2 := F.out.r.fz 0
              have z3 := F.out.r.fz 1
              obtain ⟨⟨y0, y1⟩, hp⟩ := F.out.r.put (sgn (rk (floatOfInt .f64 sg))) 2
              replace hp := Lib.hid hp
              have hSS := fun w => SignOf_any (floatOfInt .f64 sg) w hdd
              go_wp2_with (fail)
              go_step3
              refine And.intro (rfl : (0 : Nat) = 0) ?_
              change Code.wp _ _ _ _ _
              go_wp2_with (go_at_call 34; ((with_reducible refine (hSS _).mono ?_)); rintro en wz ⟨rfl, rfl⟩)
              rw [Exit.noGoto_ret]
              refine bodyPost_ret (v := .agg #[.int .i64 (sgn (rk (floatOfInt .f64 sg))), .int .i64 2]) (by simp [results, Tryz.results14, go_sem, y0, y1]) rfl ?_
              exact ⟨2, by rw [hg.out], F.out.p.turn.trans hp.out fun k hk e => by (have : k = w.heap.size + 1 + 1 + 1 := e; omega)⟩
            · have hz2 := decide_eq_false hz
              have a5 := fun w => fAbs_any dC w ndC.1
              have k11 := fun (t : TypeId) (w : World) => run_float_arith (P := Tryz.prog) (w := w) .mul t .f64 _ _ _ hzc.out
              have k12 := fun (t : TypeId) (w : World) => run_float_arith (P := Tryz.prog) (w := w) .mul t .f64 _ _ _ i1
              have k13 := fun (t : TypeId) (w : World) => run_float_arith (P := Tryz.prog) (w := w) .add t .f64 _ _ _ i2
              have k14 := fun (t : TypeId) (w : World) => run_float_arith (P := Tryz.prog) (w := w) .mul t .f64 _ _ _ i3
              have k15 := fun (t : TypeId) (w : World) => run_float_arith (P := Tryz.prog) (w := w) .mul t .f64 _ _ _ i4
              have k16 := fun (t : TypeId) (w : World) => run_float_arith (P := Tryz.prog) (w := w) .add t .f64 _ _ _ i5
              have k17 := fun (t : TypeId) (w : World) => run_float_arith (P := Tryz.prog) (w := w) .mul t .f64 _ _ _ i6
              have k18 := fun (t : TypeId) (w : World) => run_float_arith (P := Tryz.prog) (w := w) .mul t .f64 _ _ _ i7
              have k19 := fun (t : TypeId) (w : World) => run_float_arith (P := Tryz.prog) (w := w) .add t .f64 _ _ _ i8
              have k20 := fun (t : TypeId) (w : World) => run_float_arith (P := Tryz.prog) (w := w) .sub t .f64 _ _ _ i9
              have k21 := fun (t : TypeId) (w : World) => run_float_arith (P := Tryz.prog) (w := w) .add t .f64 _ _ _ i10
              clear i1 i2 i3 i4 i5 i6 i7 i8 i9 i10
              have o8 := beq_ge (abs_nn ndC) nbd
              by_cases hC2 : rk bd ≤ rk (dC % 9223372036854775808)
              · rw [decide_eq_true hC2] at o8
                have hg := Lib.hid (hC1.out hC2)
                have z0 := F.out.r.c0
                have z1 := F.out.r.c1
                have z2 := F.out.r.fz 0
                have z3 := F.out.r.fz 1
                obtain ⟨⟨y0, y1⟩, hp⟩ := F.out.r.put (sgn (rk (dC))) 3
                replace hp := Lib.hid hp
                have hSS := fun w => SignOf_any (dC) w ndC
                go_wp2_with (first
                  | (go_at_call 26; ((with_reducible refine (a4 _).mono ?_)); rintro en wa ⟨rfl, rfl⟩)
                  | (go_at_call 26; ((with_reducible refine (a5 _).mono ?_)); rintro en wa ⟨rfl, rfl⟩))
                go_step3
                refine And.intro (rfl : (0 : Nat) = 0) ?_
                change Code.wp _ _ _ _ _
                go_wp2_with (go_at_call 34; ((with_reducible refine (hSS _).mono ?_)); rintro en wz ⟨rfl, rfl⟩)
                rw [Exit.noGoto_ret]
                refine bodyPost_ret (v := .agg #[.int .i64 (sgn (rk (dC))), .int .i64 3]) (by simp [results, Tryz.results14, go_sem, y0, y1]) rfl ?_
                exact ⟨3, by rw [hg.out], F.out.p.turn.trans hp.out fun k hk e => by (have : k = w.heap.size + 1 + 1 + 1 := e; omega)⟩
              · rw [decide_eq_false hC2] at o8
                replace hC2 := Lib.hid hC2
                go_upto_region 23 with (first
                  | (go_at_call 26; ((with_reducible refine (a4 _).mono ?_)); rintro en wa ⟨rfl, rfl⟩)
                  | (go_at_call 26; ((with_reducible refine (a5 _).mono ?_)); rintro en wa ⟨rfl, rfl⟩))
                replace F := Lib.hid (F.out.still (Turn.refl (fun _ => False) _).drew)
                have q := F.out.p
                have e0 := q.a.c0
                have e1 := q.a.c1
                have e2 := q.b.c0
                have e3 := q.b.c1
                have e4 := q.c.c0
                have e5 := q.c.c1
                have x1 := hD1.out hb _ F.out.p.turn
                clear q
                go_region_held3 (fun wx => wx.cell? ⟨w.heap.size, 0, none⟩ = some (.int .i64 X1) ∧ wx.cell? ⟨w.heap.size, 1, none⟩ = some (.int .i64 Y1) ∧ wx.cell? ⟨w.heap.size + 1, 0, none⟩ = some (.int .i64 X2) ∧ wx.cell? ⟨w.heap.size + 1, 1, none⟩ = some (.int .i64 Y2) ∧ wx.cell? ⟨w.heap.size + 1 + 1, 0, none⟩ = some (.int .i64 X3) ∧ wx.cell? ⟨w.heap.size + 1 + 1, 1, none⟩ = some (.int .i64 Y3))
                  (first | (refine ⟨?_, ?_, ?_, ?_, ?_, ?_⟩ <;> with_reducible assumption) | (refine ⟨?_, ?_, ?_, ?_, ?_, ?_⟩ <;> (with_reducible refine cell_two ?_ (by assumption); dsimp only; omega)))
                  (first
                  | (go_at_call 33; ((with_reducible refine x1.mono ?_)); rintro en w14 ⟨a1, m1, rfl, i1, P1, h⟩
                     replace F := Lib.hid (F.out.still h)
                     have q := F.out.p
                     have e0 := q.a.c0
                     have e1 := q.a.c1
                     have e2 := q.b.c0
                     have e3 := q.b.c1
                     have e4 := q.c.c0
                     have e5 := q.c.c1
                     have x2 := hD2.out hb _ F.out.p.turn
                     replace P1 := Lib.hid P1
                     replace i1 := Lib.hid i1
                     clear h x1 q)
                  | (go_at_call 33; ((with_reducible refine x2.mono ?_)); rintro en w15 ⟨a2, m2, rfl, i2, P2, h⟩
                     replace F := Lib.hid (F.out.still h)
                     have q := F.out.p
                     have e0 := q.a.c0
                     have e1 := q.a.c1
                     have e2 := q.b.c0
                     have e3 := q.b.c1
                     have e4 := q.c.c0
                     have e5 := q.c.c1
                     replace P1 := Lib.hid (P1.out.still h)
                     have x3 := hQ1.out hb _ _ _ _ _ F.out.p.turn P1.out i1.out P2 i2
                     replace P2 := Lib.hid P2
                     replace i2 := Lib.hid i2
                     clear h x2 q)
                  | (go_at_call 28; ((with_reducible refine x3.mono ?_)); rintro en w16 ⟨a3, m3, rfl, i3, P3, h⟩
                     replace F := Lib.hid (F.out.still h)
                     have q := F.out.p
                     have e0 := q.a.c0
                     have e1 := q.a.c1
                     have e2 := q.b.c0
                     have e3 := q.b.c1
                     have e4 := q.c.c0
                     have e5 := q.c.c1
                     have x4 := hD3.out hb _ F.out.p.turn
                     replace P3 := Lib.hid P3
                     replace i3 := Lib.hid i3
                     clear h x3 q)
                  | (go_at_call 33; ((with_reducible refine x4.mono ?_)); rintro en w17 ⟨a4, m4, rfl, i4, P4, h⟩
                     replace F := Lib.hid (F.out.still h)
                     have q := F.out.p
                     have e0 := q.a.c0
                     have e1 := q.a.c1
                     have e2 := q.b.c0
                     have e3 := q.b.c1
                     have e4 := q.c.c0
                     have e5 := q.c.c1
                     replace P3 := Lib.hid (P3.out.still h)
                     have x5 := hD4.out hb _ F.out.p.turn
                     replace P4 := Lib.hid P4
                     replace i4 := Lib.hid i4
                     clear h x4 q)
                  | (go_at_call 33; ((with_reducible refine x5.mono ?_)); rintro en w18 ⟨a5, m5, rfl, i5, P5, h⟩
                     replace F := Lib.hid (F.out.still h)
                     have q := F.out.p
                     have e0 := q.a.c0
                     have e1 := q.a.c1
                     have e2 := q.b.c0
                     have e3 := q.b.c1
                     have e4 := q.c.c0
                     have e5 := q.c.c1
                     replace P3 := Lib.hid (P3.out.still h)
                     replace P4 := Lib.hid (P4.out.still h)
                     have x6 := hQ2.out hb _ _ _ _ _ F.out.p.turn P4.out i4.out P5 i5
                     replace P5 := Lib.hid P5
                     replace i5 := Lib.hid i5
                     clear h x5 q)
                  | (go_at_call 28; ((with_reducible refine x6.mono ?_)); rintro en w19 ⟨a6, m6, rfl, i6, P6, h⟩
                     replace F := Lib.hid (F.out.still h)
                     have q := F.out.p
                     have e0 := q.a.c0
                     have e1 := q.a.c1
                     have e2 := q.b.c0
                     have e3 := q.b.c1
                     have e4 := q.c.c0
                     have e5 := q.c.c1
                     replace P3 := Lib.hid (P3.out.still h)
                     have x7 := hQ3.out hb _ _ _ _ _ F.out.p.turn P3.out i3.out P6 i6
                     replace P6 := Lib.hid P6
                     replace i6 := Lib.hid i6
                     clear h x6 q)
                  | (go_at_call 29; ((with_reducible refine x7.mono ?_)); rintro en w20 ⟨a7, m7, rfl, i7, P7, h⟩
                     replace F := Lib.hid (F.out.still h)
                     have q := F.out.p
                     have e0 := q.a.c0
                     have e1 := q.a.c1
                     have e2 := q.b.c0
                     have e3 := q.b.c1
                     have e4 := q.c.c0
                     have e5 := q.c.c1
                     have x8 := hQ4.out hb _ _ _ F.out.p.turn P7 i7
                     replace P7 := Lib.hid P7
                     replace i7 := Lib.hid i7
                     clear h x7 q)
                  | (go_at_call 31; ((with_reducible refine x8.mono ?_)); rintro en w21 ⟨rfl, h⟩
                     replace F := Lib.hid (F.out.still h)
                     have q := F.out.p
                     have e0 := q.a.c0
                     have e1 := q.a.c1
                     have e2 := q.b.c0
                     have e3 := q.b.c1
                     have e4 := q.c.c0
                     have e5 := q.c.c1
                     have z0 := F.out.r.c0
                     have z1 := F.out.r.c1
                     have z2 := F.out.r.fz 0
                     have z3 := F.out.r.fz 1
                     have hp := Lib.hid (F.out.r.put g 4)
                     clear h x8 q))
                all_goals (
                  obtain ⟨⟨y0, y1⟩, hp2⟩ := hp.out
                  replace hp2 := Lib.hid hp2
                  go_wp2_with fail
                  refine bodyPost_ret (v := .agg #[.int .i64 g, .int .i64 4]) (by simp [results, Tryz.results14, go_sem, y0, y1]) rfl ?_
                  exact ⟨4, rfl, F.out.p.turn.trans hp2.out fun k hk e => by (have : k = w.heap.size + 1 + 1 + 1 := e; omega)⟩)
end
section
open Go.RowKit
theorem cst {n M q m j t : Nat} (h1 : 4503599627370496 ≤ n) (h2 : n < 9218868437227405312) (hM : 4503599627370496 + n % 4503599627370496 = M) (hq : n / 4503599627370496 - 1 = q) (hm : m = M * 2 ^ t) (hj : q = t + (1074 - j)) : FV n ((m : Int) * 2 ^ (1074 - j)) := by
  refine ⟨⟨by omega, by omega⟩, ?_⟩
  have e : mg n = M * 2 ^ q := by rw [← hM, ← hq]; exact if_neg (by omega)
  unfold fv
  rw [if_neg (by omega), Nat.mod_eq_of_lt (by omega), e, hj, hm, Nat.pow_add, Int.natCast_mul, Int.natCast_mul, Int.natCast_mul, Int.natCast_pow, Int.natCast_pow, Int.mul_assoc]
  rfl
theorem cstA : FV 4375247037990436868 (((27021597764222992 : Nat) : Int) * 2 ^ (1074 - 106)) := cst (M := 6755399441055748) (q := 970) (t := 2) (by omega) (by omega) (by omega) (by omega) (by decide) (by omega)
theorem cstB : FV 4372995238176751619 (((18014398509481996 : Nat) : Int) * 2 ^ (1074 - 106)) := cst (M := 4503599627370499) (q := 970) (t := 2) (by omega) (by omega) (by omega) (by omega) (by decide) (by omega)
theorem cstC : FV 4143874607134277636 (((81064793292668992 : Nat) : Int) * 2 ^ (1074 - 159)) := cst (M := 5066549580791812) (q := 919) (t := 4) (by omega) (by omega) (by omega) (by omega) (by decide) (by omega)
theorem cstK : FV 4375247037990436866 (((27021597764222984 : Nat) : Int) * 2 ^ (1074 - 106)) := cst (M := 6755399441055746) (q := 970) (t := 2) (by omega) (by omega) (by omega) (by omega) (by decide) (by omega)
theorem FV.sgn {x : Nat} {z : Int} (h : FV x z) : sgn (rk x) = sgn z := by
  have h1 := @fv_pos x
  have h2 := @fv_negv x
  rw [h.2] at h1 h2
  unfold YtllapbkoildfiaaGreatFmt.sgn
  split <;> split <;> (try split) <;> (try split) <;> omega
theorem FV.le {x y : Nat} {a b : Int} (hx : FV x a) (hy : FV y b) : rk x ≤ rk y ↔ a ≤ b := by
  rw [← fv_le, hx.2, hy.2]
theorem foi_ok (T : Int) : NN (floatOfInt .f64 (sgn T)) ∧ sgn (rk (floatOfInt .f64 (sgn T))) = sgn T := by
  have h : sgn T = -1 ∨ sgn T = 0 ∨ sgn T = 1 := by unfold sgn; split <;> (try split) <;> simp
  rcases h with h | h | h
  · rw [h]
    have e : floatOfInt .f64 (-1) = 13830554455654793216 := by decide +kernel
    rw [e]
    exact ⟨⟨by omega, by omega⟩, by decide +kernel⟩
  · rw [h]
    have e : floatOfInt .f64 0 = 0 := by decide +kernel
    rw [e]
    exact ⟨⟨by omega, by omega⟩, by decide +kernel⟩
  · rw [h]
    have e : floatOfInt .f64 1 = 4607182418800017408 := by decide +kernel
    rw [e]
    exact ⟨⟨by omega, by omega⟩, by decide +kernel⟩
theorem mul_shift {X Y : Int} (h1 : Big X) (h2 : Big Y) : rn (pz X Y) * 2 ^ 1074 = rn (X * Y) := by
  rw [pz_mul h1 h2, rn_shift]
theorem rn_zero_iff {z : Int} : rn z = 0 ↔ z = 0 := ⟨fun h => Classical.byContradiction fun g => rn_ne g h, fun h => by rw [h, rn_zero]⟩
theorem pz_ne {X Y : Int} (h1 : Big X) (h2 : Big Y) (h : rn (pz X Y) ≠ 0) : X ≠ 0 ∧ Y ≠ 0 := by
  refine ⟨fun e => h ?_, fun e => h ?_⟩
  · have := mul_shift h1 h2
    rw [e, Int.zero_mul, rn_zero] at this
    exact (Int.mul_eq_zero.1 this).resolve_right (Int.ne_of_gt (pow_pos2 _)) |> fun g => by rw [e]; exact g
  · have := mul_shift h1 h2
    rw [e, Int.mul_zero, rn_zero] at this
    exact (Int.mul_eq_zero.1 this).resolve_right (Int.ne_of_gt (pow_pos2 _)) |> fun g => by rw [e]; exact g
theorem bad_iff {l r : Nat} {L R : Int} (hl : FV l L) (hr : FV r R) : Bad l r ↔ (L = 0 ∨ (0 < L ∧ R ≤ 0) ∨ (L < 0 ∧ 0 ≤ R)) := by
  have a1 := rk_fv_zero hl
  have a2 := @fv_pos l
  have a3 := @fv_negv l
  have b2 := @fv_pos r
  have b3 := @fv_negv r
  rw [hl.2] at a2 a3
  rw [hr.2] at b2 b3
  unfold Bad
  omega
end
end Go.Proofs.YtllapbkoildfiaaGreatFmt
