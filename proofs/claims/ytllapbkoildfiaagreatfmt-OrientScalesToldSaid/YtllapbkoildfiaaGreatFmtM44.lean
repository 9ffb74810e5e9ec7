/- span: Mul · orient: SpanSub, SpanMul, Between · orient: Exact of words; Known, wild$1 · The plain law of the tame stages: words and values. -/
import Derived.Test.YtllapbkoildfiaaGreatFmtM41
import Derived.Test.YtllapbkoildfiaaGreatFmtM43
import Derived.Test.YtllapbkoildfiaaGreatFmtM42
import Derived.Laws.EntriesVeiled
import Derived.Test.YtllapbkoildfiaaGreatFmtM36
set_option linter.all false
set_option exponentiation.threshold 100000
namespace Go.Proofs.YtllapbkoildfiaaGreatFmt
section
open Go.RowKit
theorem min_f {x y : Nat} (hx : NN x) (hy : NN y) : ∃ r, NN r ∧ rk r ≤ rk x ∧ rk r ≤ rk y ∧ ∀ ts t w, (Builtin.min_ ts t #[.float .f64 x, .float .f64 y]).run Tryz.prog w = .ok (.float .f64 r) w := by
  have o := order_rk hx hy
  rw [compare_i] at o
  by_cases c : rk x < rk y
  · rw [if_pos c] at o
    refine ⟨x, hx, Int.le_refl _, Int.le_of_lt c, fun ts t w => ?_⟩
    simp [Builtin.min_, Builtin.min2, o]
  · rw [if_neg c] at o
    by_cases d : rk x = rk y
    · rw [if_pos d] at o
      by_cases g : (FloatKind.f64.decode x).neg = true
      · refine ⟨x, hx, by omega, by omega, fun ts t w => ?_⟩
        simp [Builtin.min_, Builtin.min2, o, g]
      · refine ⟨y, hy, by omega, by omega, fun ts t w => ?_⟩
        simp [Builtin.min_, Builtin.min2, o, g]
    · rw [if_neg d] at o
      refine ⟨y, hy, by omega, by omega, fun ts t w => ?_⟩
      simp [Builtin.min_, Builtin.min2, o]
theorem max_f {x y : Nat} (hx : NN x) (hy : NN y) : ∃ r, NN r ∧ rk x ≤ rk r ∧ rk y ≤ rk r ∧ ∀ ts t w, (Builtin.max_ ts t #[.float .f64 x, .float .f64 y]).run Tryz.prog w = .ok (.float .f64 r) w := by
  have o := order_rk hx hy
  rw [compare_i] at o
  by_cases c : rk x < rk y
  · rw [if_pos c] at o
    refine ⟨y, hy, by omega, by omega, fun ts t w => ?_⟩
    simp [Builtin.max_, Builtin.max2, o]
  · rw [if_neg c] at o
    by_cases d : rk x = rk y
    · rw [if_pos d] at o
      by_cases g : (FloatKind.f64.decode x).neg = true
      · refine ⟨y, hy, by omega, by omega, fun ts t w => ?_⟩
        simp [Builtin.max_, Builtin.max2, o, g]
      · refine ⟨x, hx, by omega, by omega, fun ts t w => ?_⟩
        simp [Builtin.max_, Builtin.max2, o, g]
    · rw [if_neg d] at o
      refine ⟨x, hx, by omega, by omega, fun ts t w => ?_⟩
      simp [Builtin.max_, Builtin.max2, o]
structure MrS (w : World) (ex ey : Nat → Nat) (k : Nat) (wr : World) (L M : Nat) : Prop where
  nl : NN L
  nm : NN M
  turn : Turn (fun _ => False) w wr
  lo : ∀ i, i < k → ∃ T, TLo (ex i) (ey i) T ∧ rk L ≤ rk T
  hi : ∀ i, i < k → ∃ T, TUp (ex i) (ey i) T ∧ rk T ≤ rk M
theorem MrS.next {w wr w' : World} {ex ey : Nat → Nat} {k : Nat} {L M A B : Nat} {R S : Nat} (h : MrS w ex ey k wr L M) (ha : TLo (ex k) (ey k) A) (hb : TUp (ex k) (ey k) B) (r1 : NN R) (r2 : rk R ≤ rk L) (r3 : rk R ≤ rk A) (s1 : NN S) (s2 : rk M ≤ rk S) (s3 : rk B ≤ rk S) (t : Turn (fun _ => False) wr w') : MrS w ex ey (k + 1) w' R S :=
  ⟨r1, s1, h.turn.trans' t, fun i hi => by
    rcases (by omega : i < k ∨ i = k) with g | rfl
    · obtain ⟨T, t1, t2⟩ := h.lo i g
      exact ⟨T, t1, Int.le_trans r2 t2⟩
    · exact ⟨A, ha, r3⟩, fun i hi => by
    rcases (by omega : i < k ∨ i = k) with g | rfl
    · obtain ⟨T, t1, t2⟩ := h.hi i g
      exact ⟨T, t1, Int.le_trans t2 s2⟩
    · exact ⟨B, hb, s3⟩⟩
def cx (a b : Nat) (k : Nat) : Nat := if k < 2 then a else b
def cy (c d : Nat) (k : Nat) : Nat := if k % 2 = 0 then c else d
theorem cnr {a b c d : Nat} {U V : Int} {w wr : World} {L M : Nat} (h : Enc a b U 0) (k : Enc c d V 0) (g : MrS w (cx a b) (cy c d) 4 wr L M) : Enc L M (U * V) 1074 := by
  obtain ⟨T1, t1, l1⟩ := g.lo 0 (by omega)
  obtain ⟨T2, t2, l2⟩ := g.lo 1 (by omega)
  obtain ⟨T3, t3, l3⟩ := g.lo 2 (by omega)
  obtain ⟨T4, t4, l4⟩ := g.lo 3 (by omega)
  obtain ⟨S1, s1, m1⟩ := g.hi 0 (by omega)
  obtain ⟨S2, s2, m2⟩ := g.hi 1 (by omega)
  obtain ⟨S3, s3, m3⟩ := g.hi 2 (by omega)
  obtain ⟨S4, s4, m4⟩ := g.hi 3 (by omega)
  refine ⟨?_, ?_⟩
  · rcases corner h k t1 t2 t3 t4 with e | e | e | e
    · exact e.less g.nl l1
    · exact e.less g.nl l2
    · exact e.less g.nl l3
    · exact e.less g.nl l4
  · rcases corner_up h k s1 s2 s3 s4 with e | e | e | e
    · exact e.more g.nm m1
    · exact e.more g.nm m2
    · exact e.more g.nm m3
    · exact e.more g.nm m4
theorem nn_pinf : NN 9218868437227405312 := ⟨by omega, by omega⟩
theorem nn_ninf : NN 18442240474082181120 := ⟨by omega, by omega⟩
set_option maxRecDepth 100000 in
theorem cr_index (a b c d k : Nat) (hk : k < 4) : ∀ w, (Instr.index 90 (.agg #[.int .i64 (iw a), .int .i64 (iw c), .int .i64 (iw a), .int .i64 (iw d), .int .i64 (iw b), .int .i64 (iw c), .int .i64 (iw b), .int .i64 (iw d)]) (.int .i64 (k : Nat))).run Tryz.prog w = .ok (.agg #[.int .i64 (iw (cx a b k)), .int .i64 (iw (cy c d k))]) w := by
  intro w
  rcases (by omega : k = 0 ∨ k = 1 ∨ k = 2 ∨ k = 3) with rfl | rfl | rfl | rfl <;> kernel_rfl
set_option maxRecDepth 100000 in
set_option maxHeartbeats 4000000 in
theorem sMul_any {a b c d : Nat} {U V : Int} (h : Enc a b U 0) (h2 : Enc c d V 0) (w : World) (hT : Tab w) (hK : Kar w) : Calls Tryz.prog 37 #[spv (iw a) (iw b), spv (iw c) (iw d)] w (SpR w (U * V) 1074) := by
  have hV := fun W => sValid_any h W
  have hV2 := fun W => sValid_any h2 W
  have n1 := h.lo.1
  have n2 := h.hi.1
  have n3 := h2.lo.1
  have n4 := h2.hi.1
  have hE := fun wr L M => @cnr a b c d U V w wr L M h h2
  have ix := cr_index a b c d
  have nx : ∀ k, NN (cx a b k) := fun k => by unfold cx; split <;> assumption
  have ny : ∀ k, NN (cy c d k) := fun k => by unfold cy; split <;> assumption
  clear h h2 n1 n2 n3 n4
  replace nx := Lib.hid nx
  replace ny := Lib.hid ny
  replace hE := Lib.hid hE
  generalize hex : cx a b = ex at *
  generalize hey : cy c d = ey at *
  clear hex hey
  generalize iw a = X at *
  generalize iw b = Y at *
  generalize iw c = X2 at *
  generalize iw d = Y2 at *
  have b1 := SB.made w X Y
  have t1 := (Turn.refl (fun _ => False) w).alloc (.cells #[.int .i64 X, .int .i64 Y] 47)
  have s1 := size_alloc w (.cells #[.int .i64 X, .int .i64 Y] 47)
  generalize hw1 : w.alloc (.cells #[.int .i64 X, .int .i64 Y] 47) = w1 at b1 t1 s1
  have c1 := SB.made w1 X2 Y2
  have t2 := (Turn.refl (fun _ => False) w1).alloc (.cells #[.int .i64 X2, .int .i64 Y2] 47)
  have s2 := size_alloc w1 (.cells #[.int .i64 X2, .int .i64 Y2] 47)
  generalize hw2 : w1.alloc (.cells #[.int .i64 X2, .int .i64 Y2] 47) = w2 at c1 t2 s2
  have r1 := SB.made w2 0 0
  have t3 := (Turn.refl (fun _ => False) w2).alloc (.cells #[.int .i64 0, .int .i64 0] 47)
  have s3 := size_alloc w2 (.cells #[.int .i64 0, .int .i64 0] 47)
  generalize hw3 : w2.alloc (.cells #[.int .i64 0, .int .i64 0] 47) = w3 at r1 t3 s3
  have t4 := (Turn.refl (fun _ => False) w3).alloc (.cells #[.int .i64 X, .int .i64 Y, .int .i64 X2, .int .i64 Y2] 47)
  have hVV := svalid_any w3.heap.size 2 2 _ (by omega) (spl_two w3 X Y X2 Y2 hV hV2)
  rw [s1] at c1 s2
  rw [s2] at r1 s3
  rw [s3] at hVV
  have k1 := ((b1.still t2).still t3).still t4
  have k2 := (c1.still t3).still t4
  have k3 := r1.still t4
  have tt := ((t1.trans' t2).trans' t3).trans' t4
  have e0 := ((b1.still t2).still t3).c0
  have e1 := ((b1.still t2).still t3).c1
  have e2 := (c1.still t3).c0
  have e3 := (c1.still t3).c1
  rw [← hw3, ← hw2, ← hw1] at hVV k1 k2 k3 tt e0 e1 e2 e3
  replace k1 := Lib.hid k1
  replace k2 := Lib.hid k2
  replace k3 := Lib.hid k3
  replace tt := Lib.hid tt
  replace hT := Lib.hid hT
  replace hK := Lib.hid hK
  clear b1 t1 s1 c1 r1 t2 s2 t3 s3 t4 hw1 hw2 hw3 hV hV2
  go_enter Tryz.func37, Tryz.ntmps37
  go_wp2_with (first
    | (go_at_call 53; ((with_reducible refine hVV.mono ?_)); rintro en wa ⟨rfl, h⟩
       have k1 := k1.out.still h
       have k2 := k2.out.still h
       have k3 := Lib.hid (k3.out.still h)
       have tt := Lib.hid (tt.out.trans' h)
       have e0 := k1.c0
       have e1 := k1.c1
       have e2 := k2.c0
       have e3 := k2.c1
       clear h)
    | (go_at_call 56; ((with_reducible refine (Inf_pos _).mono ?_)); rintro en wb ⟨rfl, rfl⟩)
    | (go_at_call 56; ((with_reducible refine (Inf_neg _).mono ?_)); rintro en wb ⟨rfl, rfl⟩))
  have tt2 := tt.out.alloc (.cells #[.int .i64 X, .int .i64 X2, .int .i64 X, .int .i64 Y2, .int .i64 Y, .int .i64 X2, .int .i64 Y, .int .i64 Y2] 90)
  have k4 := k3.out.still ((Turn.refl (fun _ => False) wa).alloc (.cells #[.int .i64 X, .int .i64 X2, .int .i64 X, .int .i64 Y2, .int .i64 Y, .int .i64 X2, .int .i64 Y, .int .i64 Y2] 90))
  clear e0 e1 e2 e3 hVV k1 k2 k3 tt
  replace k4 := Lib.hid k4
  replace tt2 := Lib.hid tt2
  generalize hw4 : wa.alloc (.cells #[.int .i64 X, .int .i64 X2, .int .i64 X, .int .i64 Y2, .int .i64 Y, .int .i64 X2, .int .i64 Y, .int .i64 Y2] 90) = w4 at *
  clear hw4
  go_loopw [44, 8, 9] (fun vi vl vm wr => ∃ k L M : Nat, k ≤ 4 ∧ vi = .int .i64 k ∧ vl = .float .f64 L ∧ vm = .float .f64 M ∧ Hid (Turn (fun _ => False) w4 wr) ∧ MrS w ex ey k wr L M) (fun vi _ _ _ => 4 - (intOf vi).toNat)
  case atStart => exact ⟨0, _, _, by omega, rfl, rfl, rfl, Lib.hid (Turn.refl _ _), nn_pinf, nn_ninf, tt2.out, fun i hi => absurd hi (Nat.not_lt_zero _), fun i hi => absurd hi (Nat.not_lt_zero _)⟩
  case round =>
    obtain ⟨k, L, M, hk, rfl, rfl, rfl, ht, hM⟩ := hrel
    by_cases hk4 : k < 4
    · have q := ix k hk4
      have hn1 : (0 : Int) ≤ (k : Int) := by omega
      have hn2 : (k : Int) < 4 := by omega
      have nl := hM.nl
      have nm := hM.nm
      have t1 := hM.turn
      have t2 := (Turn.refl (fun _ => False) wr).alloc (.cells #[.int .i64 (iw (ex k)), .int .i64 (iw (ey k))] 87)
      have m0 := cell_made #[.int .i64 (iw (ex k)), .int .i64 (iw (ey k))] 87 wr 0
      have m1 := cell_made #[.int .i64 (iw (ex k)), .int .i64 (iw (ey k))] 87 wr 1
      have mk := World.block_lt_of_cell? _ _ m0
      obtain ⟨A, hA, hcA⟩ := times_down (ex k) (ey k) _ (nx.out k) (ny.out k) (hT.out.still (t1.trans' t2)) (hK.out.still (t1.trans' t2))
      obtain ⟨R, r1, r2, r3, r4⟩ := min_f nl hA.nn
      have hup := Lib.hid (fun W (t : Turn (fun _ => False) wr W) => times_up (ex k) (ey k) W (nx.out k) (ny.out k) (hT.out.still (t1.trans' t)) (hK.out.still (t1.trans' t)))
      replace t1 := Lib.hid t1
      replace t2 := Lib.hid t2
      replace hM := Lib.hid hM
      replace hA := Lib.hid hA
      replace r2 := Lib.hid r2
      replace r3 := Lib.hid r3
      replace mk := Lib.hid mk
      go_wp2_with (first
        | (go_at_call 57; ((with_reducible refine hcA.mono ?_)); rintro en wb ⟨rfl, h⟩
           have t3 := t2.out.trans' h
           have m0' := (h.cell (p := ⟨wr.heap.size, 0, none⟩) mk.out id).trans m0
           have m1' := (h.cell (p := ⟨wr.heap.size, 1, none⟩) mk.out id).trans m1
           obtain ⟨B, hB, hcB⟩ := hup.out wb t3
           obtain ⟨S, s1, s2, s3, s4⟩ := max_f nm hB.nn
           replace t3 := Lib.hid t3
           replace hB := Lib.hid hB
           replace s2 := Lib.hid s2
           replace s3 := Lib.hid s3
           clear h hcA)
        | (go_at_call 57; ((with_reducible refine hcB.mono ?_)); rintro en wc ⟨rfl, h⟩
           have t4 := Lib.hid (t3.out.trans' h)
           clear h hcB))
      all_goals go_roundw
      case rel => exact ⟨k + 1, R, S, by omega, by go_num, rfl, rfl, Lib.hid (ht.out.trans' t4.out), hM.out.next hA.out hB.out r1 r2.out r3.out s1 s2.out s3.out t4.out⟩
      case measure => simp [intOf]; omega
    · obtain rfl : k = 4 := by omega
      have hen := hE.out wr L M hM
      have nl := hM.nl
      have nm := hM.nm
      have tt3 := hM.turn
      have k5 := k4.out.still ht.out
      replace k5 := Lib.hid k5
      replace tt3 := Lib.hid tt3
      clear hM
      have hst := stold_any hen wr
      clear hen
      go_wp2_with (first
        | (go_at_call 59; ((with_reducible refine (bOf_any L _ nl).mono ?_)); rintro en wb ⟨rfl, rfl⟩)
        | (go_at_call 59; ((with_reducible refine (bOf_any M _ nm).mono ?_)); rintro en wb ⟨rfl, rfl⟩)
        | (go_at_call 58; ((with_reducible refine hst.mono ?_)); rintro en wc ⟨lo, hi, rfl, hE2, h⟩
           have k6 := k5.out.still h
           have f0 := k6.c0
           have f1 := k6.c1
           have f2 := k6.fz 0
           have f3 := k6.fz 1
           obtain ⟨P, hP⟩ : ∃ P, P = iw lo := ⟨_, rfl⟩
           obtain ⟨Q, hQ⟩ : ∃ Q, Q = iw hi := ⟨_, rfl⟩
           rw [← hP, ← hQ]
           obtain ⟨⟨q0, q1⟩, hp⟩ := k6.put P Q
           have hfin := Lib.hid (show SpR w (U * V) 1074 (.returned (.tuple #[spv P Q, .int .i64 0])) _ from ⟨lo, hi, by rw [hP, hQ], hE2, (tt3.out.trans' h).trans hp fun k hk e => by (have : k = w.heap.size + 1 + 1 := e; omega)⟩)
           clear h k6 hp hE2 hP hQ hst))
      refine bodyPost_ret (v := .tuple #[spv P Q, .int .i64 0]) (by simp [results, Tryz.results37, go_sem, q0, q1]) rfl ?_
      exact hfin.out
end
section
open Go.RowKit
def SqR (w : World) (U : Int) (J : Nat) (en : Ending) (w' : World) : Prop := ∃ lo hi, en = .returned (spv (iw lo) (iw hi)) ∧ Enc lo hi U J ∧ Turn (fun _ => False) w w'
set_option maxRecDepth 100000 in
set_option maxHeartbeats 4000000 in
theorem oSub_gen (X Y X2 Y2 : Int) (U : Int) (J : Nat) (w : World) (hC : ∀ W, Turn (fun _ => False) w W → Calls Tryz.prog 36 #[spv X Y, spv X2 Y2] W (SpR W U J)) :
    Calls Tryz.prog 19 #[spv X Y, spv X2 Y2] w (SqR w U J) := by
  have b1 := SB.made w X Y
  have t1 := (Turn.refl (fun _ => False) w).alloc (.cells #[.int .i64 X, .int .i64 Y] 47)
  have s1 := size_alloc w (.cells #[.int .i64 X, .int .i64 Y] 47)
  generalize hw1 : w.alloc (.cells #[.int .i64 X, .int .i64 Y] 47) = w1 at b1 t1 s1
  have c1 := SB.made w1 X2 Y2
  have t2 := (Turn.refl (fun _ => False) w1).alloc (.cells #[.int .i64 X2, .int .i64 Y2] 47)
  have s2 := size_alloc w1 (.cells #[.int .i64 X2, .int .i64 Y2] 47)
  generalize hw2 : w1.alloc (.cells #[.int .i64 X2, .int .i64 Y2] 47) = w2 at c1 t2 s2
  have r1 := SB.made w2 0 0
  have t3 := (Turn.refl (fun _ => False) w2).alloc (.cells #[.int .i64 0, .int .i64 0] 47)
  rw [s1] at c1 s2
  rw [s2] at r1
  have k3 := r1
  have tt := (t1.trans' t2).trans' t3
  have e0 := ((b1.still t2).still t3).c0
  have e1 := ((b1.still t2).still t3).c1
  have e2 := (c1.still t3).c0
  have e3 := (c1.still t3).c1
  rw [← hw2, ← hw1] at k3 tt e0 e1 e2 e3
  have hCC := hC _ tt
  replace k3 := Lib.hid k3
  replace tt := Lib.hid tt
  clear b1 t1 s1 c1 r1 t2 s2 t3 hw1 hw2 hC
  go_enter Tryz.func19, Tryz.ntmps19
  go_wp2_with (go_at_call 36; ((with_reducible refine hCC.mono ?_)); rintro en wa ⟨lo, hi, rfl, hE, h⟩
               obtain ⟨P, hP⟩ : ∃ P, P = iw lo := ⟨_, rfl⟩
               obtain ⟨Q, hQ⟩ : ∃ Q, Q = iw hi := ⟨_, rfl⟩
               rw [← hP, ← hQ]
               have t5 := (Turn.refl (fun _ => False) wa).alloc (.cells #[.int .i64 P, .int .i64 Q] 47)
               have k6 := (k3.out.still h).still t5
               have m0 := cell_made #[.int .i64 P, .int .i64 Q] 47 wa 0
               have m1 := cell_made #[.int .i64 P, .int .i64 Q] 47 wa 1
               have f0 := k6.c0
               have f1 := k6.c1
               have f2 := k6.fz 0
               have f3 := k6.fz 1
               obtain ⟨⟨q0, q1⟩, hp⟩ := k6.put P Q
               have hfin := Lib.hid (show SqR w U J (.returned (spv P Q)) _ from ⟨lo, hi, by rw [hP, hQ], hE, ((tt.out.trans' h).trans' t5).trans hp fun k hk e => by (have : k = w.heap.size + 1 + 1 := e; omega)⟩)
               clear h k3 tt hp hE hP hQ t5 k6 hCC e0 e1 e2 e3)
  refine bodyPost_ret (v := spv P Q) (by simp [results, Tryz.results19, go_sem, q0, q1]) rfl ?_
  exact hfin.out
set_option maxRecDepth 100000 in
set_option maxHeartbeats 4000000 in
theorem oMul_gen (X Y X2 Y2 : Int) (U : Int) (J : Nat) (w : World) (hC : ∀ W, Turn (fun _ => False) w W → Calls Tryz.prog 37 #[spv X Y, spv X2 Y2] W (SpR W U J)) :
    Calls Tryz.prog 20 #[spv X Y, spv X2 Y2] w (SqR w U J) := by
  have b1 := SB.made w X Y
  have t1 := (Turn.refl (fun _ => False) w).alloc (.cells #[.int .i64 X, .int .i64 Y] 47)
  have s1 := size_alloc w (.cells #[.int .i64 X, .int .i64 Y] 47)
  generalize hw1 : w.alloc (.cells #[.int .i64 X, .int .i64 Y] 47) = w1 at b1 t1 s1
  have c1 := SB.made w1 X2 Y2
  have t2 := (Turn.refl (fun _ => False) w1).alloc (.cells #[.int .i64 X2, .int .i64 Y2] 47)
  have s2 := size_alloc w1 (.cells #[.int .i64 X2, .int .i64 Y2] 47)
  generalize hw2 : w1.alloc (.cells #[.int .i64 X2, .int .i64 Y2] 47) = w2 at c1 t2 s2
  have r1 := SB.made w2 0 0
  have t3 := (Turn.refl (fun _ => False) w2).alloc (.cells #[.int .i64 0, .int .i64 0] 47)
  rw [s1] at c1 s2
  rw [s2] at r1
  have k3 := r1
  have tt := (t1.trans' t2).trans' t3
  have e0 := ((b1.still t2).still t3).c0
  have e1 := ((b1.still t2).still t3).c1
  have e2 := (c1.still t3).c0
  have e3 := (c1.still t3).c1
  rw [← hw2, ← hw1] at k3 tt e0 e1 e2 e3
  have hCC := hC _ tt
  replace k3 := Lib.hid k3
  replace tt := Lib.hid tt
  clear b1 t1 s1 c1 r1 t2 s2 t3 hw1 hw2 hC
  go_enter Tryz.func20, Tryz.ntmps20
  go_wp2_with (go_at_call 37; ((with_reducible refine hCC.mono ?_)); rintro en wa ⟨lo, hi, rfl, hE, h⟩
               obtain ⟨P, hP⟩ : ∃ P, P = iw lo := ⟨_, rfl⟩
               obtain ⟨Q, hQ⟩ : ∃ Q, Q = iw hi := ⟨_, rfl⟩
               rw [← hP, ← hQ]
               have t5 := (Turn.refl (fun _ => False) wa).alloc (.cells #[.int .i64 P, .int .i64 Q] 47)
               have k6 := (k3.out.still h).still t5
               have m0 := cell_made #[.int .i64 P, .int .i64 Q] 47 wa 0
               have m1 := cell_made #[.int .i64 P, .int .i64 Q] 47 wa 1
               have f0 := k6.c0
               have f1 := k6.c1
               have f2 := k6.fz 0
               have f3 := k6.fz 1
               obtain ⟨⟨q0, q1⟩, hp⟩ := k6.put P Q
               have hfin := Lib.hid (show SqR w U J (.returned (spv P Q)) _ from ⟨lo, hi, by rw [hP, hQ], hE, ((tt.out.trans' h).trans' t5).trans hp fun k hk e => by (have : k = w.heap.size + 1 + 1 := e; omega)⟩)
               clear h k3 tt hp hE hP hQ t5 k6 hCC e0 e1 e2 e3)
  refine bodyPost_ret (v := spv P Q) (by simp [results, Tryz.results20, go_sem, q0, q1]) rfl ?_
  exact hfin.out
theorem oSub_any {lo hi lo2 hi2 : Nat} {U V : Int} {J : Nat} (h : Enc lo hi U J) (k : Enc lo2 hi2 V J) (w : World) (hT : Tab w) : Calls Tryz.prog 19 #[spv (iw lo) (iw hi), spv (iw lo2) (iw hi2)] w (SqR w (U - V) J) :=
  oSub_gen _ _ _ _ _ _ w fun W t => sSub_any h k W (hT.still t)
theorem oMul_any {lo hi lo2 hi2 : Nat} {U V : Int} (h : Enc lo hi U 0) (k : Enc lo2 hi2 V 0) (w : World) (hT : Tab w) (hK : Kar w) : Calls Tryz.prog 20 #[spv (iw lo) (iw hi), spv (iw lo2) (iw hi2)] w (SqR w (U * V) 1074) :=
  oMul_gen _ _ _ _ _ _ w fun W t => sMul_any h k W (hT.still t) (hK.still t)
set_option maxRecDepth 100000 in
set_option maxHeartbeats 4000000 in
theorem oBetween_gen (X Y : Int) (U V R : Int) (w : World) (h1 : ∀ W, Turn (fun _ => False) w W → Calls Tryz.prog 38 #[.int .i64 X] W (SpR W U 0)) (h2 : ∀ W, Turn (fun _ => False) w W → Calls Tryz.prog 38 #[.int .i64 Y] W (SpR W V 0))
    (h3 : ∀ lo hi lo2 hi2 W, Enc lo hi U 0 → Enc lo2 hi2 V 0 → Turn (fun _ => False) w W → Calls Tryz.prog 19 #[spv (iw lo) (iw hi), spv (iw lo2) (iw hi2)] W (SqR W R 0)) :
    Calls Tryz.prog 21 #[.int .i64 X, .int .i64 Y] w (SqR w R 0) := by
  have k1 := SB.made w 0 0
  have t1 := (Turn.refl (fun _ => False) w).alloc (.cells #[.int .i64 0, .int .i64 0] 47)
  have hC := h1 _ t1
  replace k1 := Lib.hid k1
  replace t1 := Lib.hid t1
  replace h2 := Lib.hid h2
  replace h3 := Lib.hid h3
  clear h1
  go_enter Tryz.func21, Tryz.ntmps21
  go_wp2_with (first
    | (go_at_call 38; ((with_reducible refine hC.mono ?_)); rintro en wa ⟨lo, hi, rfl, hE, h⟩
       have t2 := (t1.out.trans' h).alloc (.cells #[.int .i64 (iw lo), .int .i64 (iw hi)] 47)
       have k2 := (k1.out.still h).still ((Turn.refl (fun _ => False) wa).alloc (.cells #[.int .i64 (iw lo), .int .i64 (iw hi)] 47))
       have b2 := SB.made wa (iw lo) (iw hi)
       have s2 := size_alloc wa (.cells #[.int .i64 (iw lo), .int .i64 (iw hi)] 47)
       have hD := h2.out _ t2
       replace k2 := Lib.hid k2
       replace t2 := Lib.hid t2
       replace b2 := Lib.hid b2
       replace s2 := Lib.hid s2
       replace hE := Lib.hid hE
       clear h t1 k1 h2 hC)
    | (go_at_call 38; ((with_reducible refine hD.mono ?_)); rintro en wb ⟨lo2, hi2, rfl, hE2, h⟩
       have t3 := (t2.out.trans' h).alloc (.cells #[.int .i64 (iw lo2), .int .i64 (iw hi2)] 47)
       have t4 := (Turn.refl (fun _ => False) wb).alloc (.cells #[.int .i64 (iw lo2), .int .i64 (iw hi2)] 47)
       have k3 := Lib.hid ((k2.out.still h).still t4)
       have b3 := (b2.out.still h).still t4
       have c3 := SB.made wb (iw lo2) (iw hi2)
       have e0 := b3.c0
       have e1 := b3.c1
       have e2 := c3.c0
       have e3 := c3.c1
       have hF := h3.out lo hi lo2 hi2 _ hE.out hE2 t3
       replace t3 := Lib.hid t3
       clear h t2 t4 k2 b2 b3 c3 s2 hE hE2 h3 hD)
    | (go_at_call 19; ((with_reducible refine hF.mono ?_)); rintro en wc ⟨lo3, hi3, rfl, hE3, h⟩
       obtain ⟨P, hP⟩ : ∃ P, P = iw lo3 := ⟨_, rfl⟩
       obtain ⟨Q, hQ⟩ : ∃ Q, Q = iw hi3 := ⟨_, rfl⟩
       rw [← hP, ← hQ]
       have k6 := k3.out.still h
       have f0 := k6.c0
       have f1 := k6.c1
       have f2 := k6.fz 0
       have f3 := k6.fz 1
       obtain ⟨⟨q0, q1⟩, hp⟩ := k6.put P Q
       have hfin := Lib.hid (show SqR w R 0 (.returned (spv P Q)) _ from ⟨lo3, hi3, by rw [hP, hQ], hE3, (t3.out.trans' h).trans hp fun k hk e => by (have : k = w.heap.size := e; omega)⟩)
       clear h k3 t3 hp hE3 hP hQ k6 hF e0 e1 e2 e3))
  refine bodyPost_ret (v := spv P Q) (by simp [results, Tryz.results21, go_sem, q0, q1]) rfl ?_
  exact hfin.out
theorem oBetween_any (x y : Nat) (w : World) (hx : Fin64 x) (hy : Fin64 y) (hT : Tab w) : Calls Tryz.prog 21 #[.int .i64 (iw x), .int .i64 (iw y)] w (SqR w (fv x - fv y) 0) :=
  oBetween_gen _ _ (fv x) (fv y) _ w (fun W _ => sOf_any x W hx) (fun W _ => sOf_any y W hy) fun _ _ _ _ W a b t => oSub_any a b W (hT.still t)
end
section
open Go.RowKit
def dt (ax ay bx by' cx cy : Nat) : Int := (fv ax - fv cx) * (fv by' - fv cy) - (fv ay - fv cy) * (fv bx - fv cx)
theorem gap_small {x y : Nat} (hx : Fin64 x) (hy : Fin64 y) : (fv x - fv y).natAbs < 2 ^ 2099 := by
  have a := fv_bound hx
  have b := fv_bound hy
  have : (2:Nat) ^ 2099 = 2 ^ 2098 + 2 ^ 2098 := by rw [show 2099 = 2098 + 1 from rfl, Nat.pow_succ, Nat.mul_two]
  rw [this]
  generalize (2:Nat) ^ 2098 = n at *
  omega
theorem pw_le {a b : Nat} (h : a ≤ b) : (2:Nat) ^ a ≤ 2 ^ b := Nat.pow_le_pow_right (by omega) h
theorem gap_prod {A B : Int} (ha : A.natAbs < 2 ^ 2099) (hb : B.natAbs < 2 ^ 2099) : (A * B).natAbs < 2 ^ 39000 := by
  rw [Int.natAbs_mul]
  exact Nat.lt_of_lt_of_le (Nat.mul_lt_mul'' ha hb) (by rw [← Nat.pow_add]; exact pw_le (by omega))
set_option maxRecDepth 100000 in
theorem oExact_any (ax ay bx by' cx cy : Nat) (w : World) (h1 : Fin64 ax) (h2 : Fin64 ay) (h3 : Fin64 bx) (h4 : Fin64 by') (h5 : Fin64 cx) (h6 : Fin64 cy) (hT : Tab w) (hK : Kar w) :
    Calls Tryz.prog 24 #[spv (iw ax) (iw ay), spv (iw bx) (iw by'), spv (iw cx) (iw cy)] w (KRes2 w 2148 (dt ax ay bx by' cx cy)) := by
  have b1 := gap_small h1 h5
  have b2 := gap_small h4 h6
  have b3 := gap_small h2 h6
  have b4 := gap_small h3 h5
  refine oExact_gen (iw ax) (iw ay) (iw bx) (iw by') (iw cx) (iw cy) _ _ _ _ w ?_ (fun W t => oGap_any ax cx W h1 h5 (hT.still t)) (fun W t => oGap_any by' cy W h4 h6 (hT.still t)) (fun W t => oGap_any ay cy W h2 h6 (hT.still t)) (fun W t => oGap_any bx cx W h3 h5 (hT.still t))
    (fun W va vb t a b => ?_) (fun W va vb t a b => ?_) (fun W va vb t a b => ?_)
  · have hs : ((pt3 w (iw ax) (iw ay) (iw bx) (iw by') (iw cx) (iw cy)).alloc (.cells #[.bool false, .slice none 0 0, .int .i64 0] 53)).heap.size = w.heap.size + 1 + 1 + 1 + 1 := by
      rw [size_alloc, (pt3_ok w (iw ax) (iw ay) (iw bx) (iw by') (iw cx) (iw cy)).2]
    have := ocheck_any _ 3 3 _ _ _ (by omega) (pts3 ((pt3 w (iw ax) (iw ay) (iw bx) (iw by') (iw cx) (iw cy)).alloc (.cells #[.bool false, .slice none 0 0, .int .i64 0] 53)) ax ay bx by' cx cy h1 h2 h3 h4 h5 h6)
    rwa [hs] at this
  · exact oTimes_any va vb 1074 _ _ W (by omega) a b (Nat.lt_of_lt_of_le b1 (pw_le (by omega))) (Nat.lt_of_lt_of_le b2 (pw_le (by omega))) (hT.still t) (hK.still t)
  · exact oTimes_any va vb 1074 _ _ W (by omega) a b (Nat.lt_of_lt_of_le b3 (pw_le (by omega))) (Nat.lt_of_lt_of_le b4 (pw_le (by omega))) (hT.still t) (hK.still t)
  · exact oMinus_any va vb 2148 _ _ W (by omega) a b (gap_prod b1 b2) (gap_prod b3 b4) (hT.still t)
set_option maxRecDepth 100000 in
set_option maxHeartbeats 4000000 in
theorem oWild1_gen (ax ay bx by' cx cy : Int) (b1 b2 b3 : Nat) (U : Int) (w : World) (hA : SB w b1 ax ay) (hB : SB w b2 bx by') (hC : SB w b3 cx cy) (hE : ∀ W, Turn (fun _ => False) w W → Calls Tryz.prog 24 #[spv ax ay, spv bx by', spv cx cy] W (KRes2 W 2148 U)) :
    Calls Tryz.prog 23 #[.pointer (some ⟨b1, 0, none⟩), .pointer (some ⟨b2, 0, none⟩), .pointer (some ⟨b3, 0, none⟩)] w (KRes w 2148 U) := by
  have k1 := Bx.made 53 w
  have t1 := (Turn.refl (fun _ => False) w).alloc (.cells #[.bool false, .slice none 0 0, .int .i64 0] 53)
  have a1 := hA.still t1
  have a2 := hB.still t1
  have a3 := hC.still t1
  have e0 := a1.c0
  have e1 := a1.c1
  have e2 := a2.c0
  have e3 := a2.c1
  have e4 := a3.c0
  have e5 := a3.c1
  have hCC := hE _ t1
  replace k1 := Lib.hid k1
  replace t1 := Lib.hid t1
  clear hA hB hC hE a1 a2 a3
  go_enter Tryz.func23, Tryz.ntmps23
  go_wp2_with (go_at_call 24; ((with_reducible refine hCC.mono ?_)); rintro en wa ⟨v, rfl, hn, h⟩
               obtain ⟨s, a, n, c, E, rfl⟩ := hn.form
               have t5 := (Turn.refl (fun _ => False) wa).alloc (.cells #[.bool s, .slice a n c, .int .i64 E] 53)
               have hn2 := hn.still t5
               have k6 := (k1.out.still h).still t5
               have m := fun i => cell_made #[.bool s, .slice a n c, .int .i64 E] 53 wa i
               have m0 := m 0
               have m1 := m 1
               have m2 := m 2
               have g0 := k6.c0
               have g1 := k6.c1
               have g2 := k6.c2
               have g3 := k6.f0
               have g4 := k6.f1
               have g5 := k6.f2
               obtain ⟨q0, q1, q2⟩ := set3 (.bool s) (.slice a n c) (.int .i64 E) g0 g1 g2
               have hfin := Lib.hid (hn2.put ((t1.out.trans' h).trans' t5) k6 (show w.heap.size ≤ w.heap.size by omega) (put3 _ _ (.bool s) (.slice a n c) (.int .i64 E)))
               clear h k1 t1 hn hn2 t5 k6 m hCC e0 e1 e2 e3 e4 e5)
  refine bodyPost_ret (v := .agg #[.bool s, .slice a n c, .int .i64 E]) (by simp [results, Tryz.results23, go_sem, q0, q1, q2]) rfl ?_
  exact hfin.out
def StR (w : World) (s : Int) (en : Ending) (w' : World) : Prop := ∃ st, en = .returned (.agg #[.int .i64 s, .int .i64 st]) ∧ Turn (fun _ => False) w w'
set_option maxRecDepth 100000 in
set_option maxHeartbeats 4000000 in
theorem oKnown_gen (X Y : Int) (b1 b2 b3 : Nat) (U V : Int) (hUV : sgn V = sgn U) (w : World) (hS : ∀ W, Turn (fun _ => False) w W → Calls Tryz.prog 39 #[spv X Y] W (SgR W V)) (hF : ∀ W, Turn (fun _ => False) w W → Calls Tryz.prog 23 #[.pointer (some ⟨b1, 0, none⟩), .pointer (some ⟨b2, 0, none⟩), .pointer (some ⟨b3, 0, none⟩)] W (KRes W 2148 U)) :
    Calls Tryz.prog 22 #[spv X Y, .func (.func 23) #[] #[.pointer (some ⟨b1, 0, none⟩), .pointer (some ⟨b2, 0, none⟩), .pointer (some ⟨b3, 0, none⟩)]] w (StR w (sgn U)) := by
  have a1 := SB.made w X Y
  have t1 := (Turn.refl (fun _ => False) w).alloc (.cells #[.int .i64 X, .int .i64 Y] 47)
  have s1 := size_alloc w (.cells #[.int .i64 X, .int .i64 Y] 47)
  generalize hw1 : w.alloc (.cells #[.int .i64 X, .int .i64 Y] 47) = w1 at a1 t1 s1
  have r1 : SB (w1.alloc (.cells #[.int .i64 0, .int .i64 0] 29)) w1.heap.size 0 0 := ⟨cell_made _ _ _ 0, cell_made _ _ _ 1, fun i => frozen_made _ _ _ i⟩
  have t2 := (Turn.refl (fun _ => False) w1).alloc (.cells #[.int .i64 0, .int .i64 0] 29)
  have tt := t1.trans' t2
  have e0 := (a1.still t2).c0
  have e1 := (a1.still t2).c1
  rw [s1] at r1
  rw [← hw1] at r1 tt e0 e1
  have hSS := hS _ tt
  replace r1 := Lib.hid r1
  replace tt := Lib.hid tt
  replace hF := Lib.hid hF
  replace hUV := Lib.hid hUV
  clear a1 t1 s1 t2 hw1 hS
  go_enter Tryz.func22, Tryz.ntmps22
  go_wp2_with (first
    | (go_at_call 39; ((with_reducible refine hSS.mono ?_)); rintro en wa ⟨s, k, rfl, hk, hs, h⟩
       have r2 := r1.out.still h
       have tt2 := tt.out.trans' h
       have hFF := hF.out _ tt2
       have g0 := r2.c0
       have g1 := r2.c1
       have g2 := r2.fz 0
       have g3 := r2.fz 1
       replace r2 := Lib.hid r2
       replace tt2 := Lib.hid tt2
       replace hk := Lib.hid hk
       clear h r1 tt hF hSS e0 e1 hs)
    | (go_at_call 23; ((with_reducible refine hFF.mono ?_)); rintro en wb ⟨v, rfl, hn, h⟩
       have r3 := r2.out.still h
       have tt3 := tt2.out.trans' h
       have hSg := dSign_any v 2148 U wb hn
       replace r3 := Lib.hid r3
       replace tt3 := Lib.hid tt3
       clear h hFF hn r2 tt2 g0 g1 g2 g3)
    | (go_at_call 40; ((with_reducible refine hSg.mono ?_)); rintro en wc ⟨rfl, h⟩
       have r4 := r3.out.still h
       have g0 := r4.c0
       have g1 := r4.c1
       have g2 := r4.fz 0
       have g3 := r4.fz 1
       obtain ⟨⟨q0, q1⟩, hp⟩ := r4.put (sgn U) 6
       have hfin := Lib.hid (show StR w (sgn U) (.returned (.agg #[.int .i64 (sgn U), .int .i64 6])) _ from ⟨6, rfl, (tt3.out.trans' h).trans hp fun k hk e => by (have : k = w.heap.size + 1 := e; omega)⟩)
       clear h hSg r3 tt3 r4 hp))
  · obtain ⟨⟨q0, q1⟩, hp⟩ := r2.out.put s 5
    refine bodyPost_ret (v := .agg #[.int .i64 s, .int .i64 5]) (by simp [results, Tryz.results22, go_sem, q0, q1]) rfl ?_
    refine ⟨5, ?_, tt2.out.trans hp fun k hk e => by (have : k = w.heap.size + 1 := e; omega)⟩
    rw [hk.out (by assumption), hUV.out]
  · refine bodyPost_ret (v := .agg #[.int .i64 (sgn U), .int .i64 6]) (by simp [results, Tryz.results22, go_sem, q0, q1]) rfl ?_
    exact hfin.out
end
section
structure Tp (a : Int) : Prop where
  dv : (2 : Int) ^ 872 ∣ a
  bd : a.natAbs ≤ 2 ^ 1225
  rep : Rep (a - rn a)
theorem lt_pw {x a b : Nat} (h : x ≤ 2 ^ a) (hab : a < b) : x < 2 ^ b := Nat.lt_of_le_of_lt h (Nat.pow_lt_pow_right (by omega) hab)
theorem le_pw {x a b : Nat} (h : x ≤ 2 ^ a) (hab : a ≤ b) : x ≤ 2 ^ b := Nat.le_trans h (Nat.pow_le_pow_right (by omega) hab)
theorem Tp.dif {a : Int} (h : Tp a) (h0 : a ≠ 0) : Dif a := ⟨h0, h.dv, le_pw h.bd (by omega), h.rep⟩
theorem Tp.rnb {a : Int} (h : Tp a) : (rn a).natAbs ≤ 2 ^ 1226 := le_pw (rn_le2 h.bd) (by omega)
theorem Tp.big {a : Int} (h : Tp a) : Big (rn a) := ⟨rep_rn a, rn_dvd h.dv, lt_pw h.rnb (by omega)⟩
theorem Tp.tb {a : Int} (h : Tp a) : (a - rn a).natAbs ≤ 2 ^ 1226 := Nat.le_trans (rn_err0 a) (le_pw h.bd (by omega))
theorem Tp.tail {a : Int} (h : Tp a) : Big (a - rn a) := ⟨h.rep, Int.dvd_sub h.dv (rn_dvd h.dv), lt_pw h.tb (by omega)⟩
theorem mg_tame {m : Nat} (h1 : 3931642474694443008 ≤ m) (h2 : m < 5282722362905591808) : 2 ^ 872 ∣ mg m ∧ mg m ≤ 2 ^ 1224 := by
  obtain ⟨q, hq⟩ : ∃ q, q = m / 4503599627370496 - 1 := ⟨_, rfl⟩
  obtain ⟨M, hM⟩ : ∃ M, M = 4503599627370496 + m % 4503599627370496 := ⟨_, rfl⟩
  have e : mg m = M * 2 ^ q := by rw [hM, hq]; exact if_neg (by omega)
  have hM2 : M ≤ 9007199254740992 := by omega
  have hq1 : 872 ≤ q := by omega
  have hq2 : q ≤ 1171 := by omega
  clear hq hM h1 h2
  rw [e]
  clear e
  refine ⟨?_, ?_⟩
  · obtain ⟨k, rfl⟩ : ∃ k, q = 872 + k := ⟨q - 872, by omega⟩
    rw [Nat.pow_add]
    exact ⟨M * 2 ^ k, Nat.mul_left_comm M (2 ^ 872) (2 ^ k)⟩
  · have h53 : (9007199254740992 : Nat) = 2 ^ 53 := by decide
    rw [h53] at hM2
    have := Nat.mul_le_mul hM2 (Nat.pow_le_pow_right (show 0 < 2 by omega) hq2)
    rwa [← Nat.pow_add] at this
theorem tm_val {x : Nat} (h : tm x = true) : (2 : Int) ^ 872 ∣ fv x ∧ (fv x).natAbs ≤ 2 ^ 1224 := by
  have e : (fv x).natAbs = mg (x % 9223372036854775808) := fv_abs x
  have key : 2 ^ 872 ∣ mg (x % 9223372036854775808) ∧ mg (x % 9223372036854775808) ≤ 2 ^ 1224 := by
    unfold tm at h
    generalize x % 9223372036854775808 = m at *
    rw [Bool.or_eq_true, Bool.and_eq_true, decide_eq_true_eq, decide_eq_true_eq, decide_eq_true_eq] at h
    clear e
    rcases h with h | ⟨h1, h2⟩
    · have : mg m = 0 := by rw [h]; rfl
      rw [this]
      exact ⟨Nat.dvd_zero _, Nat.zero_le _⟩
    · exact mg_tame h1 h2
  refine ⟨?_, by rw [e]; exact key.2⟩
  have : ((2 ^ 872 : Nat) : Int) ∣ fv x := Int.ofNat_dvd_left.2 (by rw [e]; exact key.1)
  rwa [Int.natCast_pow] at this
theorem FV.mk {x : Nat} (h : Fin64 x) : FV x (fv x) := ⟨h, rfl⟩
theorem sub_as_add (a b : Int) : a - b = a + -b := Int.sub_eq_add_neg
theorem tp_of {x y : Nat} (hx : Fin64 x) (hy : Fin64 y) (h1 : tm x = true) (h2 : tm y = true) : Tp (fv x - fv y) := by
  obtain ⟨d1, b1⟩ := tm_val h1
  obtain ⟨d2, b2⟩ := tm_val h2
  refine ⟨Int.dvd_sub d1 d2, ?_, ?_⟩
  · have : (2:Nat) ^ 1225 = 2 ^ 1224 + 2 ^ 1224 := by rw [show 1225 = 1224 + 1 from rfl, Nat.pow_succ, Nat.mul_two]
    rw [this]
    generalize (2:Nat) ^ 1224 = n at *
    omega
  · rw [sub_as_add]
    exact rep_err (FV.mk hx).rep (FV.mk hy).rep.neg
theorem tp_word {x y : Nat} (hx : Fin64 x) (hy : Fin64 y) (h1 : tm x = true) (h2 : tm y = true) : ∃ u, floatBits .sub .f64 x y = some u ∧ FV u (rn (fv x - fv y)) :=
  fsub (FV.mk hx) (FV.mk hy) (lt_pw (tp_of hx hy h1 h2).bd (show 1225 < 2000 by omega)) (by omega)
theorem big_mul {x y : Nat} {X Y : Int} (hx : FV x X) (hy : FV y Y) (h1 : Big X) (h2 : Big Y) (b1 : X.natAbs ≤ 2 ^ 1226) (b2 : Y.natAbs ≤ 2 ^ 1226) : ∃ r, floatBits .mul .f64 x y = some r ∧ FV r (rn (pz X Y)) :=
  fmul hx hy (pz_mul h1 h2) (lt_pw (pz_bd h1 h2 b1 b2) (show 1378 < 2000 by omega)) (by omega)
structure Md (z : Int) (n : Nat) : Prop where
  dv : (2 : Int) ^ 670 ∣ z
  bd : z.natAbs ≤ 2 ^ n
theorem Md.rn {z : Int} {n : Nat} (h : Md z n) : Md (rn z) n := ⟨rn_dvd h.dv, rn_le2 h.bd⟩
theorem Md.mono {z : Int} {m n : Nat} (h : Md z m) (hmn : m ≤ n) : Md z n := ⟨h.dv, le_pw h.bd hmn⟩
theorem pw_two (n : Nat) : (2 : Nat) ^ (n + 1) = 2 ^ n + 2 ^ n := by rw [Nat.pow_succ, Nat.mul_two]
theorem Md.add {x y : Int} {n : Nat} (h : Md x n) (k : Md y n) : Md (x + y) (n + 1) := ⟨Int.dvd_add h.dv k.dv, by
  have a := h.bd
  have b := k.bd
  rw [pw_two]
  generalize (2 : Nat) ^ n = w at *
  omega⟩
theorem Md.sub {x y : Int} {n : Nat} (h : Md x n) (k : Md y n) : Md (x - y) (n + 1) := ⟨Int.dvd_sub h.dv k.dv, by
  have a := h.bd
  have b := k.bd
  rw [pw_two]
  generalize (2 : Nat) ^ n = w at *
  omega⟩
theorem Md.abs {x : Int} {n : Nat} (h : Md x n) : Md (x.natAbs : Int) n := ⟨Int.dvd_natAbs.2 h.dv, by rw [Int.natAbs_natCast]; exact h.bd⟩
theorem big_md {X Y : Int} (h1 : Big X) (h2 : Big Y) (b1 : X.natAbs ≤ 2 ^ 1226) (b2 : Y.natAbs ≤ 2 ^ 1226) : Md (pz X Y) 1378 := ⟨pz_dvd h1 h2, pz_bd h1 h2 b1 b2⟩
theorem md_add {x y : Nat} {X Y : Int} {n : Nat} (hx : FV x X) (hy : FV y Y) (h : Md X n) (k : Md Y n) (hn : n ≤ 1500) : ∃ r, floatBits .add .f64 x y = some r ∧ FV r (rn (X + Y)) :=
  fadd hx hy (lt_pw (h.add k).bd (show n + 1 < 2000 by omega)) (by omega)
theorem md_sub {x y : Nat} {X Y : Int} {n : Nat} (hx : FV x X) (hy : FV y Y) (h : Md X n) (k : Md Y n) (hn : n ≤ 1500) : ∃ r, floatBits .sub .f64 x y = some r ∧ FV r (rn (X - Y)) :=
  fsub hx hy (lt_pw (h.sub k).bd (show n + 1 < 2000 by omega)) (by omega)
theorem FV.abs {x : Nat} {X : Int} (h : FV x X) : FV (x % 9223372036854775808) (X.natAbs : Int) := by
  obtain ⟨h1, rfl⟩ := h
  refine ⟨⟨by omega, by rw [Nat.mod_mod]; exact h1.2⟩, ?_⟩
  rw [fv_abs]
  unfold fv
  rw [if_neg (by omega), Nat.mod_mod]
theorem md_const {c s : Nat} {S : Int} {n j m : Nat} (hc : FV c ((m : Int) * 2 ^ (1074 - j))) (hs : FV s S) (h : Md S n) (hn : n ≤ 1500) (hj : j ≤ 200) (hm : m < 2 ^ 60) :
    ∃ Z r, floatBits .mul .f64 c s = some r ∧ FV r (rn Z) ∧ (2 : Int) ^ j * Z = m * S ∧ (rn Z).natAbs ≤ 2 ^ (n + 61) := by
  obtain ⟨t, ht⟩ := h.dv
  have e1 : (2 : Int) ^ 670 = 2 ^ j * 2 ^ (670 - j) := by rw [← Int.pow_add]; congr 1; omega
  have hZ : (2 : Int) ^ j * (m * (2 ^ (670 - j) * t)) = m * S := by
    rw [ht, e1]; ac_rfl
  have hb : ((m : Int) * (2 ^ (670 - j) * t)).natAbs ≤ 2 ^ (n + 61) := by
    have e2 : (2 ^ (670 - j) * t).natAbs ≤ S.natAbs := by
      rw [ht, e1, Int.mul_assoc, Int.natAbs_mul (2 ^ j)]
      exact Nat.le_mul_of_pos_left _ (Int.natAbs_pos.2 (Int.ne_of_gt (pow_pos2 j)))
    rw [Int.natAbs_mul, Int.natAbs_natCast]
    refine Nat.le_trans (Nat.mul_le_mul (Nat.le_of_lt hm) (Nat.le_trans e2 h.bd)) ?_
    rw [← Nat.pow_add]
    exact Nat.pow_le_pow_right (by omega) (by omega)
  obtain ⟨r, r1, r2⟩ := fmul (z := (m : Int) * (2 ^ (670 - j) * t)) hc hs (by
    have e3 : (2 : Int) ^ 1074 = 2 ^ (1074 - j) * 2 ^ j := by rw [← Int.pow_add]; congr 1; omega
    rw [e3, ← Int.mul_assoc]
    have : (m : Int) * 2 ^ (1074 - j) * S = 2 ^ (1074 - j) * (m * S) := by ac_rfl
    rw [this, ← hZ]; ac_rfl) (lt_pw hb (show n + 61 < 2000 by omega)) (by omega)
  exact ⟨_, r, r1, r2, hZ, rn_le2 hb⟩
end
end Go.Proofs.YtllapbkoildfiaaGreatFmt
