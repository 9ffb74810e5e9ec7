/- span: Sign · point: Tame, finite, Check; orient: check, Tames · orient: Exact · orient: Parts.Near · orient: tame. -/
import Derived.Test.YtllapbkoildfiaaGreatFmtM41
import Derived.BigQuiet
import Derived.Laws.StructEq
import Derived.Test.YtllapbkoildfiaaGreatFmtM31
import Derived.Test.YtllapbkoildfiaaGreatFmtM19
import Derived.Test.YtllapbkoildfiaaGreatFmtM24
import Derived.Deep.RegionHeld3
import Derived.Test.YtllapbkoildfiaaGreatFmtM39
import Derived.Test.YtllapbkoildfiaaGreatFmtM35
import Derived.WalkMore
import Derived.ScopeJumps
set_option linter.all false
set_option exponentiation.threshold 100000
namespace Go.Proofs.YtllapbkoildfiaaGreatFmt
section
open Go.RowKit
structure Non (w : World) : Prop where
  c0 : w.cell? ⟨1, 0, none⟩ = some (.int .i64 0)
  c1 : w.cell? ⟨1, 1, none⟩ = some (.int .i64 0)
theorem Non.still {w w' : World} (h : Non w) (t : Turn (fun _ => False) w w') : Non w' :=
  ⟨(t.cell (p := ⟨1, 0, none⟩) (World.block_lt_of_cell? w _ h.c0) id).trans h.c0, (t.cell (p := ⟨1, 1, none⟩) (World.block_lt_of_cell? w _ h.c1) id).trans h.c1⟩
set_option maxRecDepth 100000 in
theorem eql_none (X Y : Int) (w : World) : (binOp .eql 47 (.agg #[.int .i64 X, .int .i64 Y]) (.agg #[.int .i64 0, .int .i64 0])).run Tryz.prog w = .ok (.bool (X == 0 && Y == 0)) w := by
  have h1 : (Tryz.prog.fieldsOf 47).toList.map (fun f => (f.name == "_", f.type, f.offset)) = [(false, 3, 0), (false, 3, 1)] := by kernel_rfl
  rw [run_eql_struct, run_equalIn_struct w 9999 47 _ _ (by kernel_rfl) (by kernel_rfl)]
  generalize (Tryz.prog.fieldsOf 47).toList = fs at h1
  rcases fs with _ | ⟨f, _ | ⟨g, _ | ⟨z, zs⟩⟩⟩
  · simp at h1
  · simp at h1
  · simp only [List.map_cons, List.map_nil, List.cons.injEq, Prod.mk.injEq, and_true] at h1
    obtain ⟨⟨n1, t1, o1⟩, n2, t2, o2⟩ := h1
    have n1 : f.name ≠ "_" := by simpa using n1
    have n2 : g.name ≠ "_" := by simpa using n2
    have p0 : ∀ A B : Int, ∀ w, (part 3 #[.int .i64 A, .int .i64 B] 0).run Tryz.prog w = .ok (.int .i64 A) w := fun A B w => by kernel_rfl
    have p1 : ∀ A B : Int, ∀ w, (part 3 #[.int .i64 A, .int .i64 B] 1).run Tryz.prog w = .ok (.int .i64 B) w := fun A B w => by kernel_rfl
    have q := fun w A B => run_equalIn_int (P := Tryz.prog) w 9998 3 .i64 .i64 A B (by kernel_rfl)
    simp only [Op.eqFields, t1, o1, t2, o2, n1, n2, ne_eq, not_false_eq_true, if_true, Sem.run_bind, p0, p1, q, Result.andThen_ok, Sem.run_ite]
    cases X == 0 <;> cases Y == 0 <;> rfl
  · simp at h1
def SgR (w : World) (U : Int) (en : Ending) (w' : World) : Prop := ∃ s k, en = .returned (.tuple #[.int .i64 s, .bool k, .int .i64 0]) ∧ (k = true → s = sgn U) ∧ (s = -1 ∨ s = 0 ∨ s = 1) ∧ Turn (fun _ => False) w w'
set_option maxRecDepth 100000 in
set_option maxHeartbeats 4000000 in
theorem sSign_1 (X Y X' Y' : Int) (x : Nat) (w : World) (hV : ∀ W, Calls Tryz.prog 79 #[spv X Y] W fun e w' => e = .returned (.bool true) ∧ Turn (fun _ => False) W w')
    (hT : ∀ W, Calls Tryz.prog 58 #[.int .i64 X, .int .i64 Y] W fun e w' => e = .returned (.tuple #[spv X' Y', .int .i64 0]) ∧ Turn (fun _ => False) W w')
    (hx : ∀ w, Calls Tryz.prog 61 #[.int .i64 X'] w fun e w' => e = .returned (.float .f64 x) ∧ w = w') (o : (FloatKind.f64.format.order x 0 == some .gt) = true) :
    Calls Tryz.prog 39 #[spv X Y] w fun e w' => e = .returned (.tuple #[.int .i64 1, .bool true, .int .i64 0]) ∧ Turn (fun _ => False) w w' := by
  have b1 := SB.made w X Y
  have t1 := (Turn.refl (fun _ => False) w).alloc (.cells #[.int .i64 X, .int .i64 Y] 47)
  have s1 := size_alloc w (.cells #[.int .i64 X, .int .i64 Y] 47)
  generalize hw1 : w.alloc (.cells #[.int .i64 X, .int .i64 Y] 47) = w1 at b1 t1 s1
  have t2 := (Turn.refl (fun _ => False) w1).alloc (.cells #[.int .i64 X, .int .i64 Y] 47)
  have hVV := svalid_any w1.heap.size 1 1 _ (by omega) (spl_one w1 X Y hV)
  rw [s1] at hVV
  have k1 := b1.still t2
  have tt := t1.trans' t2
  have e0 := b1.c0
  have e1 := b1.c1
  rw [← hw1] at hVV k1 tt e0 e1
  replace k1 := Lib.hid k1
  replace tt := Lib.hid tt
  clear b1 t1 s1 t2 hw1 hV
  go_enter Tryz.func39, Tryz.ntmps39
  go_wp2_with (first
    | (go_at_call 53; ((with_reducible refine hVV.mono ?_)); rintro en wa ⟨rfl, h⟩
       have k1 := k1.out.still h
       have tt := Lib.hid (tt.out.trans' h)
       have e0 := k1.c0
       have e1 := k1.c1
       clear h)
    | (go_at_call 58; ((with_reducible refine (hT _).mono ?_)); rintro en wb ⟨rfl, h⟩
       have tt := Lib.hid ((tt.out.trans' h).alloc (.cells #[.int .i64 X', .int .i64 Y'] 47))
       clear h)
    | (go_at_call 61; ((with_reducible refine (hx _).mono ?_)); rintro en wc ⟨rfl, rfl⟩))
  go_returns
  exact ⟨rfl, tt.out⟩
set_option maxRecDepth 100000 in
set_option maxHeartbeats 4000000 in
theorem sSign_2 (X Y X' Y' : Int) (x y : Nat) (w : World) (hV : ∀ W, Calls Tryz.prog 79 #[spv X Y] W fun e w' => e = .returned (.bool true) ∧ Turn (fun _ => False) W w')
    (hT : ∀ W, Calls Tryz.prog 58 #[.int .i64 X, .int .i64 Y] W fun e w' => e = .returned (.tuple #[spv X' Y', .int .i64 0]) ∧ Turn (fun _ => False) W w')
    (hx : ∀ w, Calls Tryz.prog 61 #[.int .i64 X'] w fun e w' => e = .returned (.float .f64 x) ∧ w = w') (o : (FloatKind.f64.format.order x 0 == some .gt) = false)
    (hy : ∀ w, Calls Tryz.prog 61 #[.int .i64 Y'] w fun e w' => e = .returned (.float .f64 y) ∧ w = w') (o2 : (FloatKind.f64.format.order y 0 == some .lt) = true) :
    Calls Tryz.prog 39 #[spv X Y] w fun e w' => e = .returned (.tuple #[.int .i64 (-1), .bool true, .int .i64 0]) ∧ Turn (fun _ => False) w w' := by
  have b1 := SB.made w X Y
  have t1 := (Turn.refl (fun _ => False) w).alloc (.cells #[.int .i64 X, .int .i64 Y] 47)
  have s1 := size_alloc w (.cells #[.int .i64 X, .int .i64 Y] 47)
  generalize hw1 : w.alloc (.cells #[.int .i64 X, .int .i64 Y] 47) = w1 at b1 t1 s1
  have t2 := (Turn.refl (fun _ => False) w1).alloc (.cells #[.int .i64 X, .int .i64 Y] 47)
  have hVV := svalid_any w1.heap.size 1 1 _ (by omega) (spl_one w1 X Y hV)
  rw [s1] at hVV
  have k1 := b1.still t2
  have tt := t1.trans' t2
  have e0 := b1.c0
  have e1 := b1.c1
  rw [← hw1] at hVV k1 tt e0 e1
  replace k1 := Lib.hid k1
  replace tt := Lib.hid tt
  clear b1 t1 s1 t2 hw1 hV
  go_enter Tryz.func39, Tryz.ntmps39
  go_wp2_with (first
    | (go_at_call 53; ((with_reducible refine hVV.mono ?_)); rintro en wa ⟨rfl, h⟩
       have k1 := k1.out.still h
       have tt := Lib.hid (tt.out.trans' h)
       have e0 := k1.c0
       have e1 := k1.c1
       clear h)
    | (go_at_call 58; ((with_reducible refine (hT _).mono ?_)); rintro en wb ⟨rfl, h⟩
       have tt := Lib.hid ((tt.out.trans' h).alloc (.cells #[.int .i64 X', .int .i64 Y'] 47))
       clear h)
    | (go_at_call 61; ((with_reducible refine (hx _).mono ?_)); rintro en wc ⟨rfl, rfl⟩)
    | (go_at_call 61; ((with_reducible refine (hy _).mono ?_)); rintro en wc ⟨rfl, rfl⟩))
  go_returns
  exact ⟨rfl, tt.out⟩
set_option maxRecDepth 100000 in
set_option maxHeartbeats 4000000 in
theorem sSign_0 (X Y X' Y' : Int) (x y : Nat) (w : World) (hV : ∀ W, Calls Tryz.prog 79 #[spv X Y] W fun e w' => e = .returned (.bool true) ∧ Turn (fun _ => False) W w')
    (hT : ∀ W, Calls Tryz.prog 58 #[.int .i64 X, .int .i64 Y] W fun e w' => e = .returned (.tuple #[spv X' Y', .int .i64 0]) ∧ Turn (fun _ => False) W w')
    (hx : ∀ w, Calls Tryz.prog 61 #[.int .i64 X'] w fun e w' => e = .returned (.float .f64 x) ∧ w = w') (o : (FloatKind.f64.format.order x 0 == some .gt) = false)
    (hy : ∀ w, Calls Tryz.prog 61 #[.int .i64 Y'] w fun e w' => e = .returned (.float .f64 y) ∧ w = w') (o2 : (FloatKind.f64.format.order y 0 == some .lt) = false) (hN : Non w) :
    Calls Tryz.prog 39 #[spv X Y] w fun e w' => e = .returned (.tuple #[.int .i64 0, .bool (X' == 0 && Y' == 0), .int .i64 0]) ∧ Turn (fun _ => False) w w' := by
  have b1 := SB.made w X Y
  have t1 := (Turn.refl (fun _ => False) w).alloc (.cells #[.int .i64 X, .int .i64 Y] 47)
  have s1 := size_alloc w (.cells #[.int .i64 X, .int .i64 Y] 47)
  generalize hw1 : w.alloc (.cells #[.int .i64 X, .int .i64 Y] 47) = w1 at b1 t1 s1
  have t2 := (Turn.refl (fun _ => False) w1).alloc (.cells #[.int .i64 X, .int .i64 Y] 47)
  have hVV := svalid_any w1.heap.size 1 1 _ (by omega) (spl_one w1 X Y hV)
  rw [s1] at hVV
  have k1 := b1.still t2
  have tt := t1.trans' t2
  have e0 := b1.c0
  have e1 := b1.c1
  rw [← hw1] at hVV k1 tt e0 e1
  replace k1 := Lib.hid k1
  replace tt := Lib.hid tt
  replace hN := Lib.hid hN
  clear b1 t1 s1 t2 hw1 hV
  go_enter Tryz.func39, Tryz.ntmps39
  go_wp2_with (first
    | (go_at_call 53; ((with_reducible refine hVV.mono ?_)); rintro en wa ⟨rfl, h⟩
       have k1 := k1.out.still h
       have tt := Lib.hid (tt.out.trans' h)
       have e0 := k1.c0
       have e1 := k1.c1
       clear h)
    | (go_at_call 58; ((with_reducible refine (hT _).mono ?_)); rintro en wb ⟨rfl, h⟩
       have tt := (tt.out.trans' h).alloc (.cells #[.int .i64 X', .int .i64 Y'] 47)
       have m0 := cell_made #[.int .i64 X', .int .i64 Y'] 47 wb 0
       have m1 := cell_made #[.int .i64 X', .int .i64 Y'] 47 wb 1
       have n0 := (hN.out.still tt).c0
       have n1 := (hN.out.still tt).c1
       replace tt := Lib.hid tt
       clear h)
    | (go_at_call 61; ((with_reducible refine (hx _).mono ?_)); rintro en wc ⟨rfl, rfl⟩)
    | (go_at_call 61; ((with_reducible refine (hy _).mono ?_)); rintro en wc ⟨rfl, rfl⟩))
  clear k1 e0 e1 hVV hT hx hy o o2
  have heq := eql_none X' Y'
  go_quiet (fail)
  go_wp2_with fail
  go_returns
  exact ⟨rfl, tt.out.drewN _⟩
theorem iw_zero {n : Nat} (h : n < 18446744073709551616) (e : iw n = 0) : n = 0 := by
  unfold iw at e
  split at e <;> omega
theorem sSign_any {a b : Nat} {U : Int} {J : Nat} (h : Enc a b U J) (w : World) (hN : Non w) : Calls Tryz.prog 39 #[spv (iw a) (iw b)] w (SgR w U) := by
  have hV := fun W => sValid_any h W
  have hT := fun W => told_gen (iw a) (iw b) (iw (cn a)) (iw (cn b)) W (fun w => Canon_any a w h.lo.1) (fun w => Canon_any b w h.hi.1)
  have hc := h.cn
  have hx := fun w => Float_any (cn a) w hc.lo.1.1
  have hy := fun w => Float_any (cn b) w hc.hi.1.1
  have n0 : NN 0 := ⟨by omega, by omega⟩
  have o1 := beq_gt hc.lo.1 n0
  have o2 := beq_lt hc.hi.1 n0
  rw [rk_zero] at o1 o2
  by_cases g1 : 0 < rk (cn a)
  · rw [decide_eq_true g1] at o1
    refine (sSign_1 _ _ _ _ _ w hV hT hx o1).mono fun e w' ⟨h1, h2⟩ => ⟨1, true, h1, fun _ => ?_, .inr (.inr rfl), h2⟩
    have := hc.pos g1
    unfold sgn
    rw [if_neg (by omega), if_neg (by omega)]
  · rw [decide_eq_false g1] at o1
    by_cases g2 : rk (cn b) < 0
    · rw [decide_eq_true g2] at o2
      refine (sSign_2 _ _ _ _ _ _ w hV hT hx o1 hy o2).mono fun e w' ⟨h1, h2⟩ => ⟨-1, true, h1, fun _ => ?_, .inl rfl, h2⟩
      have := hc.neg g2
      unfold sgn
      rw [if_pos (by omega)]
    · rw [decide_eq_false g2] at o2
      refine (sSign_0 _ _ _ _ _ _ w hV hT hx o1 hy o2 hN).mono fun e w' ⟨h1, h2⟩ => ⟨0, _, h1, fun g => ?_, .inr (.inl rfl), h2⟩
      rw [Bool.and_eq_true, beq_iff_eq, beq_iff_eq] at g
      have e1 := iw_zero hc.lo.1.1 g.1
      have e2 := iw_zero hc.hi.1.1 g.2
      have := hc.zero (by rw [e1, rk_zero]) (by rw [e2, rk_zero])
      rw [this]; rfl
end
section
open Go.RowKit
def tm (x : Nat) : Bool := decide (x % 9223372036854775808 = 0) || (decide (3931642474694443008 ≤ x % 9223372036854775808) && decide (x % 9223372036854775808 < 5282722362905591808))
theorem rk_half {m : Nat} (h : m < 9223372036854775808) : rk m = m := by
  unfold rk
  rw [Nat.mod_eq_of_lt h, if_neg (by omega)]
theorem beq_ge {x y : Nat} (hx : NN x) (hy : NN y) : (FloatKind.f64.format.order x y == some .gt || FloatKind.f64.format.order x y == some .eq) = decide (rk y ≤ rk x) := by
  rw [beq_gt hx hy, beq_eq hx hy]
  by_cases c : rk y ≤ rk x
  · rw [decide_eq_true c]
    rcases (by omega : rk y < rk x ∨ rk x = rk y) with g | g
    · rw [decide_eq_true g]; rfl
    · rw [decide_eq_true g, Bool.or_true]
  · rw [decide_eq_false c, decide_eq_false (by omega), decide_eq_false (by omega)]; rfl
theorem beq_le {x y : Nat} (hx : NN x) (hy : NN y) : (FloatKind.f64.format.order x y == some .lt || FloatKind.f64.format.order x y == some .eq) = decide (rk x ≤ rk y) := by
  rw [beq_lt hx hy, beq_eq hx hy]
  by_cases c : rk x ≤ rk y
  · rw [decide_eq_true c]
    rcases (by omega : rk x < rk y ∨ rk x = rk y) with g | g
    · rw [decide_eq_true g]; rfl
    · rw [decide_eq_true g, Bool.or_true]
  · rw [decide_eq_false c, decide_eq_false (by omega), decide_eq_false (by omega)]; rfl
set_option maxRecDepth 100000 in
theorem Tame_gen (X : Int) (x m : Nat) (b1 b2 b3 : Bool) (w : World) (hv : ∀ w, Calls Tryz.prog 25 #[.int .i64 X] w fun e w' => e = .returned (.float .f64 x) ∧ w = w') (ha : ∀ w, Calls Tryz.prog 26 #[.float .f64 x] w fun e w' => e = .returned (.float .f64 m) ∧ w = w')
    (o1 : (FloatKind.f64.format.order m 0 == some .eq) = b1) (o2 : (FloatKind.f64.format.order m 3931642474694443008 == some .gt || FloatKind.f64.format.order m 3931642474694443008 == some .eq) = b2) (o3 : (FloatKind.f64.format.order m 5282722362905591808 == some .lt) = b3) :
    Calls Tryz.prog 18 #[.int .i64 X] w fun e w' => e = .returned (.bool (b1 || (b2 && b3))) ∧ w = w' := by
  cases b1 <;> cases b2 <;> cases b3 <;>
  · go_enter Tryz.func18, Tryz.ntmps18
    go_wp2_with (first
      | (go_at_call 25; ((with_reducible refine (hv _).mono ?_)); rintro en wa ⟨rfl, rfl⟩)
      | (go_at_call 26; ((with_reducible refine (ha _).mono ?_)); rintro en wa ⟨rfl, rfl⟩))
    go_ret
    exact ⟨rfl, rfl⟩
theorem Tame_any (x : Nat) (w : World) (h : NN x) : Calls Tryz.prog 18 #[.int .i64 (iw x)] w fun e w' => e = .returned (.bool (tm x)) ∧ w = w' := by
  have hl : x % 9223372036854775808 < 9223372036854775808 := Nat.mod_lt _ (by omega)
  have hm : NN (x % 9223372036854775808) := ⟨by omega, by have := h.2; omega⟩
  have z : NN 0 := ⟨by omega, by omega⟩
  have c1 : NN 3931642474694443008 := ⟨by omega, by omega⟩
  have c2 : NN 5282722362905591808 := ⟨by omega, by omega⟩
  have r := rk_half hl
  have r1 : rk 3931642474694443008 = 3931642474694443008 := rk_half (by omega)
  have r2 : rk 5282722362905591808 = 5282722362905591808 := rk_half (by omega)
  refine Tame_gen (iw x) x (x % 9223372036854775808) _ _ _ w (fun w => Value_any x w h.1) (fun w => fAbs_any x w h.1) ((beq_eq hm z).trans ?_) ((beq_ge hm c1).trans ?_) ((beq_lt hm c2).trans ?_)
  · rw [r, rk_zero]
    exact decide_eq_decide.2 (by omega)
  · rw [r, r1]
    exact decide_eq_decide.2 (by omega)
  · rw [r, r2]
    exact decide_eq_decide.2 (by omega)
set_option maxRecDepth 100000 in
theorem pfin_gen (X : Int) (x d : Nat) (w : World) (e : IntKind.u64.wrap X = (x : Int)) (hs : floatBits .sub .f64 x x = some d) (o : (FloatKind.f64.format.order d d == some .eq) = true) :
    Calls Tryz.prog 35 #[.int .i64 X] w fun e w' => e = .returned (.bool true) ∧ w = w' := by
  have fb := from_bits
  have hsr := fun (t : TypeId) (w : World) => run_float_arith (P := Tryz.prog) (w := w) .sub t .f64 x x d hs
  go_enter Tryz.func35, Tryz.ntmps35
  go_wp2
  go_ret
  exact ⟨rfl, rfl⟩
theorem pfin_any (x : Nat) (w : World) (h : Fin64 x) : Calls Tryz.prog 35 #[.int .i64 (iw x)] w fun e w' => e = .returned (.bool true) ∧ w = w' := by
  obtain ⟨d, h1, h2, -⟩ := sub_word h h (by rw [Int.sub_self, show rn 0 = 0 from by decide]; exact Nat.mul_pos (by omega) (Nat.pow_pos (by omega)))
  exact pfin_gen (iw x) x d w (wrap_iw h.1) h1 (by rw [beq_eq h2.nn h2.nn, decide_eq_true rfl])
set_option maxRecDepth 100000 in
theorem pcheck_gen (X Y : Int) (w : World) (hx : ∀ w, Calls Tryz.prog 35 #[.int .i64 X] w fun e w' => e = .returned (.bool true) ∧ w = w') (hy : ∀ w, Calls Tryz.prog 35 #[.int .i64 Y] w fun e w' => e = .returned (.bool true) ∧ w = w') :
    Calls Tryz.prog 17 #[.agg #[.int .i64 X, .int .i64 Y]] w fun e w' => e = .returned (.int .i64 0) ∧ Turn (fun _ => False) w w' := by
  have t := Lib.hid ((Turn.refl (fun _ => False) w).alloc (.cells #[.int .i64 X, .int .i64 Y] 23))
  go_enter Tryz.func17, Tryz.ntmps17
  go_wp2_with (first
    | (go_at_call 35; ((with_reducible refine (hx _).mono ?_)); rintro en wa ⟨rfl, rfl⟩)
    | (go_at_call 35; ((with_reducible refine (hy _).mono ?_)); rintro en wa ⟨rfl, rfl⟩))
  go_ret
  exact ⟨rfl, t.out⟩
def Pts (w : World) (b n : Nat) (px py : Nat → Nat) : Prop := ∀ i, i < n → w.cell? ⟨b, i * 2, none⟩ = some (.int .i64 (iw (px i))) ∧ w.cell? ⟨b, i * 2 + 1, none⟩ = some (.int .i64 (iw (py i))) ∧ Fin64 (px i) ∧ Fin64 (py i)
set_option maxRecDepth 100000 in
theorem ocheck_any (b n c : Nat) (px py : Nat → Nat) (w : World) (hn : n ≤ 1000) (h : Pts w b n px py) : Calls Tryz.prog 11 #[.slice (some ⟨b, 0, none⟩) n c] w fun e w' => e = .returned (.int .i64 0) ∧ Turn (fun _ => False) w w' := by
  replace h := Lib.hid h
  go_enter Tryz.func11, Tryz.ntmps11
  go_wp2_with fail
  go_loopw [8] (fun vi wr => ∃ k : Nat, k ≤ n ∧ vi = .int .i64 k ∧ Turn (fun _ => False) w wr) (fun vi _ => n - (intOf vi).toNat)
  case atStart => exact ⟨0, Nat.zero_le _, rfl, Turn.refl _ _⟩
  case round =>
    obtain ⟨k, hk, rfl, ht⟩ := hrel
    by_cases hkn : k < n
    · obtain ⟨c0, c1, f1, f2⟩ := h.out k hkn
      have hlb := World.block_lt_of_cell? w _ c0
      have d0 := (ht.cell (p := ⟨b, k * 2, none⟩) hlb id).trans c0
      have d1 := (ht.cell (p := ⟨b, k * 2 + 1, none⟩) hlb id).trans c1
      have hV := fun w => pcheck_gen (iw (px k)) (iw (py k)) w (fun w => pfin_any _ w f1) (fun w => pfin_any _ w f2)
      have hn1 : (0 : Int) ≤ (k : Int) := by omega
      have hn2 : (k : Int) < n := by omega
      have ht1 := Lib.hid (ht.alloc (.cells #[.int .i64 (iw (px k)), .int .i64 (iw (py k))] 23))
      clear c0 c1 hlb f1 f2
      replace ht := Lib.hid ht
      go_wp2_with (go_at_call 17; ((with_reducible refine (hV _).mono ?_)); rintro e w' ⟨rfl, h2⟩
                   have ht2 := Lib.hid (ht1.out.trans' h2))
      all_goals go_roundw
      case rel => exact ⟨k + 1, by omega, by go_num, ht2.out⟩
      case measure => simp [intOf]; omega
    · obtain rfl : k = n := by omega
      replace ht := Lib.hid ht
      go_wp2_with fail
      go_ret
      exact ⟨rfl, ht.out⟩
set_option maxRecDepth 100000 in
set_option maxHeartbeats 2000000 in
theorem oTames_any (b n c : Nat) (px py : Nat → Nat) (w : World) (hn : n ≤ 1000) (h : Pts w b n px py) : Calls Tryz.prog 12 #[.slice (some ⟨b, 0, none⟩) n c] w fun e w' => ∃ v, e = .returned (.bool v) ∧ (v = true ↔ ∀ i, i < n → tm (px i) = true ∧ tm (py i) = true) ∧ Turn (fun _ => False) w w' := by
  replace h := Lib.hid h
  go_enter Tryz.func12, Tryz.ntmps12
  go_wp2_with fail
  go_loopw [7] (fun vi wr => ∃ k : Nat, k ≤ n ∧ vi = .int .i64 k ∧ Turn (fun _ => False) w wr ∧ ∀ i, i < k → tm (px i) = true ∧ tm (py i) = true) (fun vi _ => n - (intOf vi).toNat)
  case atStart => exact ⟨0, Nat.zero_le _, rfl, Turn.refl _ _, fun i hi => absurd hi (Nat.not_lt_zero _)⟩
  case round =>
    obtain ⟨k, hk, rfl, ht, hA⟩ := hrel
    replace hA := Lib.hid hA
    by_cases hkn : k < n
    · obtain ⟨c0, c1, f1, f2⟩ := h.out k hkn
      have hlb := World.block_lt_of_cell? w _ c0
      have d0 := (ht.cell (p := ⟨b, k * 2, none⟩) hlb id).trans c0
      have d1 := (ht.cell (p := ⟨b, k * 2 + 1, none⟩) hlb id).trans c1
      have hV := fun w => Tame_any (px k) w f1.nn
      have hV2 := fun w => Tame_any (py k) w f2.nn
      have hn1 : (0 : Int) ≤ (k : Int) := by omega
      have hn2 : (k : Int) < n := by omega
      have ht1 := Lib.hid (ht.alloc (.cells #[.int .i64 (iw (px k)), .int .i64 (iw (py k))] 23))
      clear c0 c1 hlb f1 f2
      replace ht := Lib.hid ht
      by_cases g1 : tm (px k) = true
      · by_cases g2 : tm (py k) = true
        · rw [g1] at hV
          rw [g2] at hV2
          go_wp2_with (first
            | (go_at_call 18; ((with_reducible refine (hV _).mono ?_)); rintro e wa ⟨rfl, rfl⟩)
            | (go_at_call 18; ((with_reducible refine (hV2 _).mono ?_)); rintro e wa ⟨rfl, rfl⟩))
          all_goals go_roundw
          case rel => exact ⟨k + 1, by omega, by go_num, ht1.out, fun i hi => by
            rcases (by omega : i < k ∨ i = k) with g | rfl
            · exact hA.out i g
            · exact ⟨g1, g2⟩⟩
          case measure => simp [intOf]; omega
        · have hf := Lib.hid (show ¬ ∀ i, i < n → tm (px i) = true ∧ tm (py i) = true from fun g => g2 (g k hkn).2)
          rw [g1] at hV
          rw [Bool.eq_false_iff.2 g2] at hV2
          go_wp2_with (first
            | (go_at_call 18; ((with_reducible refine (hV _).mono ?_)); rintro e wa ⟨rfl, rfl⟩)
            | (go_at_call 18; ((with_reducible refine (hV2 _).mono ?_)); rintro e wa ⟨rfl, rfl⟩))
          go_ret
          exact ⟨_, rfl, ⟨fun g => absurd g (by decide), fun g => absurd g hf.out⟩, ht1.out⟩
      · have hf := Lib.hid (show ¬ ∀ i, i < n → tm (px i) = true ∧ tm (py i) = true from fun g => g1 (g k hkn).1)
        rw [Bool.eq_false_iff.2 g1] at hV
        go_wp2_with (first
          | (go_at_call 18; ((with_reducible refine (hV _).mono ?_)); rintro e wa ⟨rfl, rfl⟩)
          | (go_at_call 18; ((with_reducible refine (hV2 _).mono ?_)); rintro e wa ⟨rfl, rfl⟩))
        go_ret
        exact ⟨_, rfl, ⟨fun g => absurd g (by decide), fun g => absurd g hf.out⟩, ht1.out⟩
    · obtain rfl : k = n := by omega
      replace ht := Lib.hid ht
      go_wp2_with fail
      go_ret
      exact ⟨_, rfl, ⟨fun _ => hA.out, fun _ => rfl⟩, ht.out⟩
end
section
open Go.RowKit
theorem SB.pt (w : World) (X Y : Int) : SB (w.alloc (.cells #[.int .i64 X, .int .i64 Y] 23)) w.heap.size X Y := ⟨cell_made _ _ _ 0, cell_made _ _ _ 1, fun i => frozen_made _ _ _ i⟩
abbrev pt3 (w : World) (ax ay bx by' cx cy : Int) : World := ((w.alloc (.cells #[.int .i64 ax, .int .i64 ay] 23)).alloc (.cells #[.int .i64 bx, .int .i64 by'] 23)).alloc (.cells #[.int .i64 cx, .int .i64 cy] 23)
structure P3 (w W : World) (ax ay bx by' cx cy : Int) : Prop where
  a : SB W w.heap.size ax ay
  b : SB W (w.heap.size + 1) bx by'
  c : SB W (w.heap.size + 1 + 1) cx cy
  turn : Turn (fun _ => False) w W
theorem P3.still {w W W' : World} {ax ay bx by' cx cy : Int} (h : P3 w W ax ay bx by' cx cy) (t : Turn (fun _ => False) W W') : P3 w W' ax ay bx by' cx cy := ⟨h.a.still t, h.b.still t, h.c.still t, h.turn.trans' t⟩
theorem pt3_ok (w : World) (ax ay bx by' cx cy : Int) : P3 w (pt3 w ax ay bx by' cx cy) ax ay bx by' cx cy ∧ (pt3 w ax ay bx by' cx cy).heap.size = w.heap.size + 1 + 1 + 1 := by
  have b1 := SB.pt w ax ay
  have t1 := (Turn.refl (fun _ => False) w).alloc (.cells #[.int .i64 ax, .int .i64 ay] 23)
  have s1 := size_alloc w (.cells #[.int .i64 ax, .int .i64 ay] 23)
  have b2 := SB.pt (w.alloc (.cells #[.int .i64 ax, .int .i64 ay] 23)) bx by'
  have t2 := (Turn.refl (fun _ => False) (w.alloc (.cells #[.int .i64 ax, .int .i64 ay] 23))).alloc (.cells #[.int .i64 bx, .int .i64 by'] 23)
  have s2 := size_alloc (w.alloc (.cells #[.int .i64 ax, .int .i64 ay] 23)) (.cells #[.int .i64 bx, .int .i64 by'] 23)
  have b3 := SB.pt ((w.alloc (.cells #[.int .i64 ax, .int .i64 ay] 23)).alloc (.cells #[.int .i64 bx, .int .i64 by'] 23)) cx cy
  have t3 := (Turn.refl (fun _ => False) ((w.alloc (.cells #[.int .i64 ax, .int .i64 ay] 23)).alloc (.cells #[.int .i64 bx, .int .i64 by'] 23))).alloc (.cells #[.int .i64 cx, .int .i64 cy] 23)
  have s3 := size_alloc ((w.alloc (.cells #[.int .i64 ax, .int .i64 ay] 23)).alloc (.cells #[.int .i64 bx, .int .i64 by'] 23)) (.cells #[.int .i64 cx, .int .i64 cy] 23)
  rw [s1] at b2 s2
  rw [s2] at b3 s3
  exact ⟨⟨(b1.still t2).still t3, b2.still t3, b3, (t1.trans' t2).trans' t3⟩, s3⟩
theorem pts3 (W : World) (ax ay bx by' cx cy : Nat) (h1 : Fin64 ax) (h2 : Fin64 ay) (h3 : Fin64 bx) (h4 : Fin64 by') (h5 : Fin64 cx) (h6 : Fin64 cy) :
    Pts (W.alloc (.cells #[.int .i64 (iw ax), .int .i64 (iw ay), .int .i64 (iw bx), .int .i64 (iw by'), .int .i64 (iw cx), .int .i64 (iw cy)] 23)) W.heap.size 3 (fun i => if i = 0 then ax else if i = 1 then bx else cx) (fun i => if i = 0 then ay else if i = 1 then by' else cy) := fun i hi => by
  have c := fun j => cell_made #[.int .i64 (iw ax), .int .i64 (iw ay), .int .i64 (iw bx), .int .i64 (iw by'), .int .i64 (iw cx), .int .i64 (iw cy)] 23 W j
  rcases (by omega : i = 0 ∨ i = 1 ∨ i = 2) with rfl | rfl | rfl
  · exact ⟨c 0, c 1, h1, h2⟩
  · exact ⟨c 2, c 3, h3, h4⟩
  · exact ⟨c 4, c 5, h5, h6⟩
set_option maxRecDepth 100000 in
set_option maxHeartbeats 8000000 in
theorem oExact_gen (ax ay bx by' cx cy : Int) (U1 U2 U3 U4 : Int) (w : World)
    (hC : Calls Tryz.prog 11 #[.slice (some ⟨w.heap.size + 1 + 1 + 1 + 1, 0, none⟩) 3 3] (((pt3 w ax ay bx by' cx cy).alloc (.cells #[.bool false, .slice none 0 0, .int .i64 0] 53)).alloc (.cells #[.int .i64 ax, .int .i64 ay, .int .i64 bx, .int .i64 by', .int .i64 cx, .int .i64 cy] 23)) fun e w' => e = .returned (.int .i64 0) ∧ Turn (fun _ => False) (((pt3 w ax ay bx by' cx cy).alloc (.cells #[.bool false, .slice none 0 0, .int .i64 0] 53)).alloc (.cells #[.int .i64 ax, .int .i64 ay, .int .i64 bx, .int .i64 by', .int .i64 cx, .int .i64 cy] 23)) w')
    (g1 : ∀ W, Turn (fun _ => False) w W → Calls Tryz.prog 43 #[.int .i64 ax, .int .i64 cx] W (KRes W 1074 U1))
    (g2 : ∀ W, Turn (fun _ => False) w W → Calls Tryz.prog 43 #[.int .i64 by', .int .i64 cy] W (KRes W 1074 U2))
    (g3 : ∀ W, Turn (fun _ => False) w W → Calls Tryz.prog 43 #[.int .i64 ay, .int .i64 cy] W (KRes W 1074 U3))
    (g4 : ∀ W, Turn (fun _ => False) w W → Calls Tryz.prog 43 #[.int .i64 bx, .int .i64 cx] W (KRes W 1074 U4))
    (m1 : ∀ W va vb, Turn (fun _ => False) w W → NumK W va 1074 U1 → NumK W vb 1074 U2 → Calls Tryz.prog 42 #[va, vb] W (KRes W 2148 (U1 * U2)))
    (m2 : ∀ W va vb, Turn (fun _ => False) w W → NumK W va 1074 U3 → NumK W vb 1074 U4 → Calls Tryz.prog 42 #[va, vb] W (KRes W 2148 (U3 * U4)))
    (m3 : ∀ W va vb, Turn (fun _ => False) w W → NumK W va 2148 (U1 * U2) → NumK W vb 2148 (U3 * U4) → Calls Tryz.prog 41 #[va, vb] W (KRes W 2148 (U1 * U2 - U3 * U4))) :
    Calls Tryz.prog 24 #[.agg #[.int .i64 ax, .int .i64 ay], .agg #[.int .i64 bx, .int .i64 by'], .agg #[.int .i64 cx, .int .i64 cy]] w (KRes2 w 2148 (U1 * U2 - U3 * U4)) := by
  obtain ⟨p1, s1⟩ := pt3_ok w ax ay bx by' cx cy
  have r1 := Bx.made 53 (pt3 w ax ay bx by' cx cy)
  have t2 := (Turn.refl (fun _ => False) (pt3 w ax ay bx by' cx cy)).alloc (.cells #[.bool false, .slice none 0 0, .int .i64 0] 53)
  have p2 := p1.still t2
  have t3 := (Turn.refl (fun _ => False) ((pt3 w ax ay bx by' cx cy).alloc (.cells #[.bool false, .slice none 0 0, .int .i64 0] 53))).alloc (.cells #[.int .i64 ax, .int .i64 ay, .int .i64 bx, .int .i64 by', .int .i64 cx, .int .i64 cy] 23)
  have p3 := p2.still t3
  have r3 := r1.still t3
  rw [s1] at r3
  have d0 := p2.a.c0
  have d1 := p2.a.c1
  have d2 := p2.b.c0
  have d3 := p2.b.c1
  have d4 := p2.c.c0
  have d5 := p2.c.c1
  replace p3 := Lib.hid p3
  replace r3 := Lib.hid r3
  replace g1 := Lib.hid g1
  replace g2 := Lib.hid g2
  replace g3 := Lib.hid g3
  replace g4 := Lib.hid g4
  replace m1 := Lib.hid m1
  replace m2 := Lib.hid m2
  replace m3 := Lib.hid m3
  clear p1 s1 r1 t2 p2 t3
  go_enter Tryz.func24, Tryz.ntmps24
  go_wp2_with (go_at_call 11; ((with_reducible refine hC.mono ?_)); rintro en wa ⟨rfl, h⟩
               have p4 := (p3.out.still h).still (Turn.refl (fun _ => False) wa).drew
               have r4 := (r3.out.still h).still (Turn.refl (fun _ => False) wa).drew
               have e0 := p4.a.c0
               have e1 := p4.a.c1
               have e2 := p4.b.c0
               have e3 := p4.b.c1
               have e4 := p4.c.c0
               have e5 := p4.c.c1
               have c1 := g1.out _ p4.turn
               replace r4 := Lib.hid r4
               replace p4 := Lib.hid p4
               clear h p3 r3 d0 d1 d2 d3 d4 d5 hC)
  go_region_held3 (fun wx => wx.cell? ⟨w.heap.size, 0, none⟩ = some (.int .i64 ax) ∧ wx.cell? ⟨w.heap.size, 1, none⟩ = some (.int .i64 ay) ∧ wx.cell? ⟨w.heap.size + 1, 0, none⟩ = some (.int .i64 bx) ∧ wx.cell? ⟨w.heap.size + 1, 1, none⟩ = some (.int .i64 by') ∧ wx.cell? ⟨w.heap.size + 1 + 1, 0, none⟩ = some (.int .i64 cx) ∧ wx.cell? ⟨w.heap.size + 1 + 1, 1, none⟩ = some (.int .i64 cy))
    (first | (refine ⟨?_, ?_, ?_, ?_, ?_, ?_⟩ <;> with_reducible assumption) | (refine ⟨?_, ?_, ?_, ?_, ?_, ?_⟩ <;> (with_reducible refine cell_three ?_ (by assumption); dsimp only; omega)))
    (first
      | (go_at_call 43; ((with_reducible refine c1.mono ?_)); rintro en w1 ⟨v1, rfl, n1, h⟩
         have q := p4.out.still h
         obtain ⟨s_v1, a_v1, n_v1, c_v1, E_v1, rfl⟩ := n1.form
         have e0 := q.a.c0
         have e1 := q.a.c1
         have e2 := q.b.c0
         have e3 := q.b.c1
         have e4 := q.c.c0
         have e5 := q.c.c1
         have c2 := g2.out _ q.turn
         replace n1 := Lib.hid n1
         have r5 := Lib.hid (r4.out.still h)
         have p5 := Lib.hid q
         clear h q c1 p4 r4)
      | (go_at_call 43; ((with_reducible refine c2.mono ?_)); rintro en w2 ⟨v2, rfl, n2, h⟩
         have q := p5.out.still h
         obtain ⟨s_v2, a_v2, n_v2, c_v2, E_v2, rfl⟩ := n2.form
         have e0 := q.a.c0
         have e1 := q.a.c1
         have e2 := q.b.c0
         have e3 := q.b.c1
         have e4 := q.c.c0
         have e5 := q.c.c1
         replace n1 := Lib.hid (n1.out.still h)
         have c3 := m1.out _ _ _ q.turn n1.out n2
         replace n2 := Lib.hid n2
         have r6 := Lib.hid (r5.out.still h)
         have p6 := Lib.hid q
         clear h q c2 p5 r5)
      | (go_at_call 42; ((with_reducible refine c3.mono ?_)); rintro en w3 ⟨v3, rfl, n3, h⟩
         have q := p6.out.still h
         obtain ⟨s_v3, a_v3, n_v3, c_v3, E_v3, rfl⟩ := n3.form
         have e0 := q.a.c0
         have e1 := q.a.c1
         have e2 := q.b.c0
         have e3 := q.b.c1
         have e4 := q.c.c0
         have e5 := q.c.c1
         have c4 := g3.out _ q.turn
         replace n3 := Lib.hid n3
         have r7 := Lib.hid (r6.out.still h)
         have p7 := Lib.hid q
         clear h q c3 p6 r6)
      | (go_at_call 43; ((with_reducible refine c4.mono ?_)); rintro en w4 ⟨v4, rfl, n4, h⟩
         have q := p7.out.still h
         obtain ⟨s_v4, a_v4, n_v4, c_v4, E_v4, rfl⟩ := n4.form
         have e0 := q.a.c0
         have e1 := q.a.c1
         have e2 := q.b.c0
         have e3 := q.b.c1
         have e4 := q.c.c0
         have e5 := q.c.c1
         replace n3 := Lib.hid (n3.out.still h)
         have c5 := g4.out _ q.turn
         replace n4 := Lib.hid n4
         have r8 := Lib.hid (r7.out.still h)
         have p8 := Lib.hid q
         clear h q c4 p7 r7)
      | (go_at_call 43; ((with_reducible refine c5.mono ?_)); rintro en w5 ⟨v5, rfl, n5, h⟩
         have q := p8.out.still h
         obtain ⟨s_v5, a_v5, n_v5, c_v5, E_v5, rfl⟩ := n5.form
         have e0 := q.a.c0
         have e1 := q.a.c1
         have e2 := q.b.c0
         have e3 := q.b.c1
         have e4 := q.c.c0
         have e5 := q.c.c1
         replace n3 := Lib.hid (n3.out.still h)
         replace n4 := Lib.hid (n4.out.still h)
         have c6 := m2.out _ _ _ q.turn n4.out n5
         replace n5 := Lib.hid n5
         have r9 := Lib.hid (r8.out.still h)
         have p9 := Lib.hid q
         clear h q c5 p8 r8)
      | (go_at_call 42; ((with_reducible refine c6.mono ?_)); rintro en w6 ⟨v6, rfl, n6, h⟩
         have q := p9.out.still h
         obtain ⟨s_v6, a_v6, n_v6, c_v6, E_v6, rfl⟩ := n6.form
         have e0 := q.a.c0
         have e1 := q.a.c1
         have e2 := q.b.c0
         have e3 := q.b.c1
         have e4 := q.c.c0
         have e5 := q.c.c1
         replace n3 := Lib.hid (n3.out.still h)
         have c7 := m3.out _ _ _ q.turn n3.out n6
         replace n6 := Lib.hid n6
         have r10 := Lib.hid (r9.out.still h)
         have p10 := Lib.hid q
         clear h q c6 p9 r9)
      | (go_at_call 41; ((with_reducible refine c7.mono ?_)); rintro en w7 ⟨v7, rfl, n7, h⟩
         have q := p10.out.still h
         obtain ⟨s_v7, a_v7, n_v7, c_v7, E_v7, rfl⟩ := n7.form
         have e0 := q.a.c0
         have e1 := q.a.c1
         have e2 := q.b.c0
         have e3 := q.b.c1
         have e4 := q.c.c0
         have e5 := q.c.c1
         have k6 := r10.out.still h
         have u0 := k6.c0
         have u1 := k6.c1
         have u2 := k6.c2
         have u3 := k6.f0
         have u4 := k6.f1
         have u5 := k6.f2
         have hs := Lib.hid (set3 (.bool s_v7) (.slice a_v7 n_v7 c_v7) (.int .i64 E_v7) u0 u1 u2)
         have hfin := Lib.hid (n7.put q.turn k6 (show w.heap.size ≤ w.heap.size + 1 + 1 + 1 by omega) (put3 _ _ (.bool s_v7) (.slice a_v7 n_v7 c_v7) (.int .i64 E_v7)))
         clear h q c7 p10 r10 k6 n7))
  all_goals (
    obtain ⟨q0, q1, q2⟩ := hs.out
    go_wp2_with fail
    refine bodyPost_ret (v := .tuple #[.agg #[.bool s_v7, .slice a_v7 n_v7 c_v7, .int .i64 E_v7], .int .i64 0]) (by simp [results, Tryz.results24, go_sem, q0, q1, q2]) rfl ?_
    obtain ⟨v, hv, hn, ht⟩ := hfin.out
    cases hv
    exact ⟨_, rfl, hn, ht⟩)
end
section
open Go.RowKit
set_option maxRecDepth 100000 in
theorem pNear_any (a : Option Addr) (c : Nat) (E : List Int) (w : World) (hE : Ls w a E) (hV : Vld E) (hn : E.length ≤ 1000) (hU : (tot E).natAbs < 2 ^ 2090) (hT : Tab w) :
    Calls Tryz.prog 30 #[.slice a E.length c] w fun e w' => ∃ r, e = .returned (.float .f64 r) ∧ FV r (rn (tot E)) ∧ Turn (fun _ => False) w w' := by
  have hA := eExact_any a c E w hE hV hn hT
  rw [psum_tot] at hA
  have fb := from_bits
  clear hE hV hT
  generalize E.length = n at *
  replace hU := Lib.hid hU
  go_enter Tryz.func30, Tryz.ntmps30
  go_wp2_with (first
    | (go_at_call 49
       ((with_reducible refine hA.mono ?_))
       rintro en wa ⟨v, rfl, h1, h2⟩
       obtain ⟨s, l, k, d, X, rfl⟩ := h1.form
       have t3 := (Turn.refl (fun _ => False) wa).alloc (.cells #[.bool s, .slice l k d, .int .i64 X] 53)
       have hTo := To_near _ (tot E) _ (h1.still t3) hU.out
       have hT2 := Lib.hid (h2.trans' t3)
       clear h1 h2 t3)
    | (go_at_call 50
       ((with_reducible refine hTo.mono ?_))
       rintro en wb ⟨r, x, rfl, r1, r2, t4⟩
       have hw := wrap_iw r1.1
       have hfin : FV r (rn (tot E)) := ⟨r1, r2⟩
       replace r2 := Lib.hid r2
       replace hfin := Lib.hid hfin
       have hT3 := Lib.hid (hT2.out.trans' t4)))
  go_ret
  exact ⟨r, rfl, hfin.out, hT3.out⟩
end
section
open Go.RowKit
theorem wp_scope_fwd {P : Program} {c rest : Code} {l : Nat} {Q : Exit → Act → World → Prop} {a : Act} {w : World} (hf : findLabel c l = some rest) (h : c.wp P (Exit.jump l (fun a w => rest.wp P (Exit.noGoto Q) a w) Q) a w) : (Code.scope c).wp P Q a w :=
  wp_scope_jumps l (fun a w => rest.wp P (Exit.noGoto Q) a w) (fun _ _ => 0) hf h fun a w hJ => Code.wp_mono (fun e a w q => by
    cases e with
    | goto l' => exact q.elim
    | _ => exact q) hJ
structure TmH (X1 Y1 X2 Y2 X3 Y3 : Int) (p1 q1 p2 q2 p3 q3 u1 v1 u2 v2 l r d : Nat) : Prop where
  x1 : ∀ w, Calls Tryz.prog 25 #[.int .i64 X1] w fun e w' => e = .returned (.float .f64 p1) ∧ w = w'
  y1 : ∀ w, Calls Tryz.prog 25 #[.int .i64 Y1] w fun e w' => e = .returned (.float .f64 q1) ∧ w = w'
  x2 : ∀ w, Calls Tryz.prog 25 #[.int .i64 X2] w fun e w' => e = .returned (.float .f64 p2) ∧ w = w'
  y2 : ∀ w, Calls Tryz.prog 25 #[.int .i64 Y2] w fun e w' => e = .returned (.float .f64 q2) ∧ w = w'
  x3 : ∀ w, Calls Tryz.prog 25 #[.int .i64 X3] w fun e w' => e = .returned (.float .f64 p3) ∧ w = w'
  y3 : ∀ w, Calls Tryz.prog 25 #[.int .i64 Y3] w fun e w' => e = .returned (.float .f64 q3) ∧ w = w'
  eu1 : floatBits .sub .f64 p1 p3 = some u1
  ev1 : floatBits .sub .f64 q1 q3 = some v1
  eu2 : floatBits .sub .f64 p2 p3 = some u2
  ev2 : floatBits .sub .f64 q2 q3 = some v2
  el : floatBits .mul .f64 u1 v2 = some l
  er : floatBits .mul .f64 v1 u2 = some r
  ed : floatBits .sub .f64 l r = some d
structure TmW (w W : World) (X1 Y1 X2 Y2 X3 Y3 : Int) : Prop where
  p : P3 w W X1 Y1 X2 Y2 X3 Y3
  r : SB W (w.heap.size + 1 + 1 + 1) 0 0
theorem TmW.still {w W W' : World} {X1 Y1 X2 Y2 X3 Y3 : Int} (h : TmW w W X1 Y1 X2 Y2 X3 Y3) (t : Turn (fun _ => False) W W') : TmW w W' X1 Y1 X2 Y2 X3 Y3 := ⟨h.p.still t, h.r.still t⟩
theorem TmW.made (w : World) (X1 Y1 X2 Y2 X3 Y3 : Int) : TmW w ((((w.alloc (.cells #[.int .i64 X1, .int .i64 Y1] 23)).alloc (.cells #[.int .i64 X2, .int .i64 Y2] 23)).alloc (.cells #[.int .i64 X3, .int .i64 Y3] 23)).alloc (.cells #[.int .i64 0, .int .i64 0] 29)) X1 Y1 X2 Y2 X3 Y3 := by
  obtain ⟨p1, s1⟩ := pt3_ok w X1 Y1 X2 Y2 X3 Y3
  have r3 : SB ((pt3 w X1 Y1 X2 Y2 X3 Y3).alloc (.cells #[.int .i64 0, .int .i64 0] 29)) (pt3 w X1 Y1 X2 Y2 X3 Y3).heap.size 0 0 := ⟨cell_made _ _ _ 0, cell_made _ _ _ 1, fun i => frozen_made _ _ _ i⟩
  rw [s1] at r3
  exact ⟨p1.still ((Turn.refl (fun _ => False) _).alloc _), r3⟩
set_option maxRecDepth 100000 in
set_option maxHeartbeats 8000000 in
theorem tame_0 {X1 Y1 X2 Y2 X3 Y3 : Int} {p1 q1 p2 q2 p3 q3 u1 v1 u2 v2 l r d : Nat} {g : Int} (w : World) (h : TmH X1 Y1 X2 Y2 X3 Y3 p1 q1 p2 q2 p3 q3 u1 v1 u2 v2 l r d) (o1 : (FloatKind.f64.format.order l 0 == some .eq) = true)
    (hS : ∀ w, Calls Tryz.prog 34 #[.float .f64 d] w fun e w' => e = .returned (.int .i64 g) ∧ w = w') :
    Calls Tryz.prog 14 #[spv X1 Y1, spv X2 Y2, spv X3 Y3] w fun e w' => e = .returned (.agg #[.int .i64 g, .int .i64 1]) ∧ Turn (fun _ => False) w w' := by
  obtain ⟨g1, g2, g3, g4, g5, g6, a1, a2, a3, a4, a5, a6, a7⟩ := h
  have k1 := fun (t : TypeId) (w : World) => run_float_arith (P := Tryz.prog) (w := w) .sub t .f64 _ _ _ a1
  have k2 := fun (t : TypeId) (w : World) => run_float_arith (P := Tryz.prog) (w := w) .sub t .f64 _ _ _ a2
  have k3 := fun (t : TypeId) (w : World) => run_float_arith (P := Tryz.prog) (w := w) .sub t .f64 _ _ _ a3
  have k4 := fun (t : TypeId) (w : World) => run_float_arith (P := Tryz.prog) (w := w) .sub t .f64 _ _ _ a4
  have k5 := fun (t : TypeId) (w : World) => run_float_arith (P := Tryz.prog) (w := w) .mul t .f64 _ _ _ a5
  have k6 := fun (t : TypeId) (w : World) => run_float_arith (P := Tryz.prog) (w := w) .mul t .f64 _ _ _ a6
  have k7 := fun (t : TypeId) (w : World) => run_float_arith (P := Tryz.prog) (w := w) .sub t .f64 _ _ _ a7
  clear a1 a2 a3 a4 a5 a6 a7
  have F := TmW.made w X1 Y1 X2 Y2 X3 Y3
  go_enter Tryz.func14, Tryz.ntmps14
  go_wp2_with fail
  generalize World.alloc (World.alloc (World.alloc (World.alloc w _) _) _) _ = W0 at *
  have e0 := F.p.a.c0
  have e1 := F.p.a.c1
  have e2 := F.p.b.c0
  have e3 := F.p.b.c1
  have e4 := F.p.c.c0
  have e5 := F.p.c.c1
  replace F := Lib.hid F
  refine wp_scope_fwd (l := 0) (rest := ?r) ?hf ?h
  case hf => exact rfl
  go_wp2_with fail
  go_quiet (first
    | (go_at_call 25; exact quiet_same (g1 _))
    | (go_at_call 25; exact quiet_same (g2 _))
    | (go_at_call 25; exact quiet_same (g5 _))
    | (go_at_call 25; exact quiet_same (g6 _)))
  replace F := F.out.still ((Turn.refl (fun _ => False) W0).drewN nq)
  clear e0 e1 e2 e3 e4 e5
  generalize W0.drewN nq = W1 at F ⊢
  have e2 := F.p.b.c0
  have e3 := F.p.b.c1
  have e4 := F.p.c.c0
  have e5 := F.p.c.c1
  replace F := Lib.hid F
  go_wp2_with fail
  go_quiet (first
    | (go_at_call 25; exact quiet_same (g3 _))
    | (go_at_call 25; exact quiet_same (g4 _))
    | (go_at_call 25; exact quiet_same (g5 _))
    | (go_at_call 25; exact quiet_same (g6 _)))
  replace F := F.out.still ((Turn.refl (fun _ => False) W1).drewN nq)
  clear e2 e3 e4 e5
  generalize W1.drewN nq = W2 at F ⊢
  have z0 := F.r.c0
  have z1 := F.r.c1
  have z2 := F.r.fz 0
  have z3 := F.r.fz 1
  obtain ⟨⟨y0, y1⟩, hp⟩ := F.r.put g 1
  replace hp := Lib.hid hp
  replace F := Lib.hid F
  go_wp2_with fail
  go_step3
  refine And.intro (rfl : (0 : Nat) = 0) ?_
  change Code.wp _ _ _ _ _
  go_wp2_with (go_at_call 34; ((with_reducible refine (hS _).mono ?_)); rintro en wa ⟨rfl, rfl⟩)
  rw [Exit.noGoto_ret]
  refine bodyPost_ret (v := .agg #[.int .i64 g, .int .i64 1]) (by simp [results, Tryz.results14, go_sem, y0, y1]) rfl ?_
  exact ⟨rfl, F.out.p.turn.trans hp.out fun k hk e => by (have : k = w.heap.size + 1 + 1 + 1 := e; omega)⟩
end
end Go.Proofs.YtllapbkoildfiaaGreatFmt
