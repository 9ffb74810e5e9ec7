/- The law's scaled · The law's walk, joined: whatever three points and k, the call of OrientScales tells true. -/
import Derived.Test.YtllapbkoildfiaaGreatFmtM47
import Derived.Test.YtllapbkoildfiaaGreatFmtM48
set_option linter.all false
set_option exponentiation.threshold 100000
namespace Go.Proofs.YtllapbkoildfiaaGreatFmt
section
open Go.RowKit
set_option maxRecDepth 100000 in
theorem scaled_gen (X Y k X' Y' : Int) (p q : Bool) (w : World) (hx : ∀ w, Calls Tryz.prog 10 #[.int .i64 X, .int .i64 k] w fun e w' => e = .returned (.tuple #[.int .i64 X', .bool p]) ∧ w = w') (hy : ∀ w, Calls Tryz.prog 10 #[.int .i64 Y, .int .i64 k] w fun e w' => e = .returned (.tuple #[.int .i64 Y', .bool q]) ∧ w = w') :
    Calls Tryz.prog 6 #[.agg #[.int .i64 X, .int .i64 Y], .int .i64 k] w fun e w' => e = .returned (.tuple #[.agg #[.int .i64 X', .int .i64 Y'], .bool (p && q)]) ∧ Turn (fun _ => False) w w' := by
  have t := Lib.hid (((Turn.refl (fun _ => False) w).alloc (.cells #[.int .i64 X, .int .i64 Y] 23)).alloc (.cells #[.int .i64 X', .int .i64 Y'] 23))
  have b := SB.pt (w.alloc (.cells #[.int .i64 X, .int .i64 Y] 23)) X' Y'
  rw [size_alloc] at b
  have b0 := b.c0
  have b1 := b.c1
  clear b
  cases p
  · go_enter Tryz.func6, Tryz.ntmps6
    go_wp2_with (first
      | (go_at_call 10; ((with_reducible refine (hx _).mono ?_)); rintro en wa ⟨rfl, rfl⟩)
      | (go_at_call 10; ((with_reducible refine (hy _).mono ?_)); rintro en wa ⟨rfl, rfl⟩))
    refine bodyPost_ret (v := .tuple #[.agg #[.int .i64 X', .int .i64 Y'], .bool false]) (by simp [results, Tryz.results6, go_sem, b0, b1]) rfl ?_
    exact ⟨rfl, t.out⟩
  · go_enter Tryz.func6, Tryz.ntmps6
    go_wp2_with (first
      | (go_at_call 10; ((with_reducible refine (hx _).mono ?_)); rintro en wa ⟨rfl, rfl⟩)
      | (go_at_call 10; ((with_reducible refine (hy _).mono ?_)); rintro en wa ⟨rfl, rfl⟩))
    refine bodyPost_ret (v := .tuple #[.agg #[.int .i64 X', .int .i64 Y'], .bool q]) (by simp [results, Tryz.results6, go_sem, b0, b1]) rfl ?_
    exact ⟨rfl, t.out⟩
theorem SB.new (w : World) (X Y : Int) (t : TypeId) : SB (w.alloc (.cells #[.int .i64 X, .int .i64 Y] t)) w.heap.size X Y := ⟨cell_made _ _ _ 0, cell_made _ _ _ 1, fun i => frozen_made _ _ _ i⟩
abbrev BR (w : World) (b : Bool) (e : Ending) (w' : World) : Prop := e = .returned (.bool b) ∧ Turn (fun _ => False) w w'
set_option maxRecDepth 100000 in
set_option maxHeartbeats 8000000 in
theorem law_a (ax ay bx by' cx cy k : Int) (g : Bool) (w : World)
    (hA : ∀ W, Turn (fun _ => False) w W → Calls Tryz.prog 4 #[] W (BR W true))
    (hG : ∀ W, Calls Tryz.prog 5 #[.agg #[.int .i64 ax, .int .i64 ay], .agg #[.int .i64 bx, .int .i64 by'], .agg #[.int .i64 cx, .int .i64 cy]] W (BR W g)) (hg : g = false ∨ k < -600 ∨ k > 600) :
    Calls Tryz.prog 3 #[.agg #[.int .i64 ax, .int .i64 ay], .agg #[.int .i64 bx, .int .i64 by'], .agg #[.int .i64 cx, .int .i64 cy], .int .i64 k] w (BR w true) := by
  obtain ⟨p1, -⟩ := pt3_ok w ax ay bx by' cx cy
  replace hA := hA _ p1.turn
  have p2 := Lib.hid p1
  clear p1
  have hg2 : g = false ∨ (g = true ∧ k < -600) ∨ (g = true ∧ ¬ k < -600 ∧ k > 600) := by
    cases g
    · exact .inl rfl
    · rcases hg with h | h | h
      · cases h
      · exact .inr (.inl ⟨rfl, h⟩)
      · exact .inr (.inr ⟨rfl, by omega, h⟩)
  clear hg
  rcases hg2 with rfl | ⟨rfl, hk⟩ | ⟨rfl, hk, hk2⟩
  all_goals
    go_enter Tryz.func3, Tryz.ntmps3
    go_wp2_with (first
      | (go_at_call 4; ((with_reducible refine hA.mono ?_)); rintro en w1 ⟨rfl, h⟩
         have q := p2.out.still h
         have e0 := q.a.c0
         have e1 := q.a.c1
         have e2 := q.b.c0
         have e3 := q.b.c1
         have e4 := q.c.c0
         have e5 := q.c.c1
         have p3 := Lib.hid q
         clear h q)
      | (go_at_call 5; ((with_reducible refine (hG _).mono ?_)); rintro en w2 ⟨rfl, h⟩
         have p4 := Lib.hid (p3.out.still h)
         clear h))
    go_ret
    exact ⟨rfl, p4.out.turn⟩
set_option maxRecDepth 100000 in
set_option maxHeartbeats 8000000 in
theorem law_b (ax ay bx by' cx cy k x1 y1 x2 y2 x3 y3 s : Int) (o1 o2 o3 : Bool) (w : World) (hk : ¬ k < -600) (hk2 : ¬ k > 600)
    (hA : ∀ W, Turn (fun _ => False) w W → Calls Tryz.prog 4 #[] W (BR W true))
    (hG : ∀ W, Calls Tryz.prog 5 #[.agg #[.int .i64 ax, .int .i64 ay], .agg #[.int .i64 bx, .int .i64 by'], .agg #[.int .i64 cx, .int .i64 cy]] W (BR W true))
    (h1 : ∀ W, Calls Tryz.prog 6 #[.agg #[.int .i64 ax, .int .i64 ay], .int .i64 k] W fun e w' => e = .returned (.tuple #[.agg #[.int .i64 x1, .int .i64 y1], .bool o1]) ∧ Turn (fun _ => False) W w')
    (h2 : ∀ W, Calls Tryz.prog 6 #[.agg #[.int .i64 bx, .int .i64 by'], .int .i64 k] W fun e w' => e = .returned (.tuple #[.agg #[.int .i64 x2, .int .i64 y2], .bool o2]) ∧ Turn (fun _ => False) W w')
    (h3 : ∀ W, Calls Tryz.prog 6 #[.agg #[.int .i64 cx, .int .i64 cy], .int .i64 k] W fun e w' => e = .returned (.tuple #[.agg #[.int .i64 x3, .int .i64 y3], .bool o3]) ∧ Turn (fun _ => False) W w')
    (hS : ∀ W, Turn (fun _ => False) w W → Calls Tryz.prog 7 #[.agg #[.int .i64 ax, .int .i64 ay], .agg #[.int .i64 bx, .int .i64 by'], .agg #[.int .i64 cx, .int .i64 cy]] W (SiR (fun _ => True) W s))
    (hS2 : o1 = true → o2 = true → o3 = true → ∀ W, Turn (fun _ => False) w W → Calls Tryz.prog 7 #[.agg #[.int .i64 x1, .int .i64 y1], .agg #[.int .i64 x2, .int .i64 y2], .agg #[.int .i64 x3, .int .i64 y3]] W (SiR (fun _ => True) W s)) :
    Calls Tryz.prog 3 #[.agg #[.int .i64 ax, .int .i64 ay], .agg #[.int .i64 bx, .int .i64 by'], .agg #[.int .i64 cx, .int .i64 cy], .int .i64 k] w (BR w true) := by
  obtain ⟨p1, -⟩ := pt3_ok w ax ay bx by' cx cy
  replace hA := hA _ p1.turn
  have p2 := Lib.hid p1
  replace hS := Lib.hid hS
  replace hS2 := Lib.hid hS2
  clear p1
  cases o1 <;> cases o2 <;> cases o3
  case true.true.true =>
    have hS3 := Lib.hid (hS2.out rfl rfl rfl)
    clear hS2
    go_enter Tryz.func3, Tryz.ntmps3
    go_wp2_with (first
      | (go_at_call 4; ((with_reducible refine hA.mono ?_)); rintro en w1 ⟨rfl, h⟩
         have q := p2.out.still h
         have e0 := q.a.c0
         have e1 := q.a.c1
         have e2 := q.b.c0
         have e3 := q.b.c1
         have e4 := q.c.c0
         have e5 := q.c.c1
         have p3 := Lib.hid q
         clear h q)
      | (go_at_call 5; ((with_reducible refine (hG _).mono ?_)); rintro en w2 ⟨rfl, h⟩
         have q := p3.out.still h
         have e0 := q.a.c0
         have e1 := q.a.c1
         have p4 := Lib.hid q
         clear h q)
      | (go_at_call 6; ((with_reducible refine (h1 _).mono ?_)); rintro en w3 ⟨rfl, h⟩
         have q := (p4.out.still h).still ((Turn.refl (fun _ => False) w3).alloc (.cells #[.int .i64 x1, .int .i64 y1] 23))
         have f1 := Lib.hid (SB.pt w3 x1 y1)
         have e2 := q.b.c0
         have e3 := q.b.c1
         have p5 := Lib.hid q
         clear h q)
      | (go_at_call 6; ((with_reducible refine (h2 _).mono ?_)); rintro en w4 ⟨rfl, h⟩
         have tt := (Turn.refl (fun _ => False) w4).alloc (.cells #[.int .i64 x2, .int .i64 y2] 23)
         have q := (p5.out.still h).still tt
         have f2 := Lib.hid ((f1.out.still h).still tt)
         have f3 := Lib.hid (SB.pt w4 x2 y2)
         have e4 := q.c.c0
         have e5 := q.c.c1
         have p6 := Lib.hid q
         clear h q tt)
      | (go_at_call 6; ((with_reducible refine (h3 _).mono ?_)); rintro en w5 ⟨rfl, h⟩
         have tt := (Turn.refl (fun _ => False) w5).alloc (.cells #[.int .i64 x3, .int .i64 y3] 23)
         have q := (p6.out.still h).still tt
         have f4 := Lib.hid ((f2.out.still h).still tt)
         have f5 := Lib.hid ((f3.out.still h).still tt)
         have f6 := Lib.hid (SB.pt w5 x3 y3)
         have e0 := q.a.c0
         have e1 := q.a.c1
         have e2 := q.b.c0
         have e3 := q.b.c1
         have e4 := q.c.c0
         have e5 := q.c.c1
         have c6 := hS.out _ q.turn
         have p7 := Lib.hid q
         clear h q tt)
      | (go_at_call 7; ((with_reducible refine c6.mono ?_)); rintro en w6 ⟨s1, rfl, -, h⟩
         have tt := (Turn.refl (fun _ => False) w6).alloc (.cells #[.int .i64 s, .int .i64 s1] 29)
         have q := (p7.out.still h).still tt
         have g4 := (f4.out.still h).still tt
         have g5 := (f5.out.still h).still tt
         have g6 := (f6.out.still h).still tt
         have f7 := Lib.hid (SB.new w6 s s1 29)
         have i0 := g4.c0
         have i1 := g4.c1
         have i2 := g5.c0
         have i3 := g5.c1
         have i4 := g6.c0
         have i5 := g6.c1
         have c7 := hS3.out _ q.turn
         have p8 := Lib.hid q
         clear h q tt g4 g5 g6 f4 f5 f6 c6)
      | (go_at_call 7; ((with_reducible refine c7.mono ?_)); rintro en w7 ⟨s2, rfl, -, h⟩
         have tt := (Turn.refl (fun _ => False) w7).alloc (.cells #[.int .i64 s, .int .i64 s2] 29)
         have q := (p8.out.still h).still tt
         have g7 := (f7.out.still h).still tt
         have g8 := SB.new w7 s s2 29
         have j0 := g7.c0
         have j1 := g8.c0
         have p9 := Lib.hid q
         clear h q tt g7 g8 f7 c7)
      | (go_at_call 8; ((with_reducible refine (lnum_any _ _).mono ?_)); rintro en wz ⟨rfl, rfl⟩))
    go_ret
    exact ⟨rfl, p9.out.turn⟩
  all_goals
    clear hS2
    go_enter Tryz.func3, Tryz.ntmps3
    go_wp2_with (first
      | (go_at_call 4; ((with_reducible refine hA.mono ?_)); rintro en w1 ⟨rfl, h⟩
         have q := p2.out.still h
         have e0 := q.a.c0
         have e1 := q.a.c1
         have e2 := q.b.c0
         have e3 := q.b.c1
         have e4 := q.c.c0
         have e5 := q.c.c1
         have p3 := Lib.hid q
         clear h q)
      | (go_at_call 5; ((with_reducible refine (hG _).mono ?_)); rintro en w2 ⟨rfl, h⟩
         have q := p3.out.still h
         have e0 := q.a.c0
         have e1 := q.a.c1
         have p4 := Lib.hid q
         clear h q)
      | (go_at_call 6; ((with_reducible refine (h1 _).mono ?_)); rintro en w3 ⟨rfl, h⟩
         have q := (p4.out.still h).still ((Turn.refl (fun _ => False) w3).alloc (.cells #[.int .i64 x1, .int .i64 y1] 23))
         have e2 := q.b.c0
         have e3 := q.b.c1
         have p5 := Lib.hid q
         clear h q)
      | (go_at_call 6; ((with_reducible refine (h2 _).mono ?_)); rintro en w4 ⟨rfl, h⟩
         have q := (p5.out.still h).still ((Turn.refl (fun _ => False) w4).alloc (.cells #[.int .i64 x2, .int .i64 y2] 23))
         have e4 := q.c.c0
         have e5 := q.c.c1
         have p6 := Lib.hid q
         clear h q)
      | (go_at_call 6; ((with_reducible refine (h3 _).mono ?_)); rintro en w5 ⟨rfl, h⟩
         have p7 := Lib.hid ((p6.out.still h).still ((Turn.refl (fun _ => False) w5).alloc (.cells #[.int .i64 x3, .int .i64 y3] 23)))
         clear h))
    go_ret
    exact ⟨rfl, p7.out.turn⟩
set_option maxRecDepth 100000 in
set_option maxHeartbeats 4000000 in
theorem alive_gen (w : World) (hS : ∀ W, Turn (fun _ => False) w W → Calls Tryz.prog 7 #[.agg #[.int .i64 0, .int .i64 0], .agg #[.int .i64 4607182418800017408, .int .i64 0], .agg #[.int .i64 0, .int .i64 4607182418800017408]] W (SiR (fun st => st = 1) W 1)) :
    Calls Tryz.prog 4 #[] w (BR w true) := by
  have c := hS w (Turn.refl _ _)
  clear hS
  go_enter Tryz.func4, Tryz.ntmps4
  go_wp2_with (first
    | (go_at_call 7; ((with_reducible refine c.mono ?_)); rintro en w6 ⟨s1, rfl, rfl, h⟩
       have f7 := SB.new w6 1 1 29
       have j0 := f7.c0
       have j1 := f7.c1
       have hf := Lib.hid (h.trans' ((Turn.refl (fun _ => False) w6).alloc (.cells #[.int .i64 1, .int .i64 1] 29)))
       clear h c f7)
    | (go_at_call 8; ((with_reducible refine (lnum_any _ _).mono ?_)); rintro en wz ⟨rfl, rfl⟩))
  go_ret
  exact ⟨rfl, hf.out⟩
end
section
open Go.RowKit
theorem three_tame {ax ay bx by' cx cy : Nat} {v : Bool} (hv : v = true ↔ ∀ i, i < 3 → tm (if i = 0 then ax else if i = 1 then bx else cx) = true ∧ tm (if i = 0 then ay else if i = 1 then by' else cy) = true) :
    v = (tm ax && (tm ay && (tm bx && (tm by' && (tm cx && tm cy))))) := by
  rw [Bool.eq_iff_iff, hv, Bool.and_eq_true, Bool.and_eq_true, Bool.and_eq_true, Bool.and_eq_true, Bool.and_eq_true]
  constructor
  · intro g
    exact ⟨(g 0 (by omega)).1, (g 0 (by omega)).2, (g 1 (by omega)).1, (g 1 (by omega)).2, (g 2 (by omega)).1, (g 2 (by omega)).2⟩
  · rintro ⟨g1, g2, g3, g4, g5, g6⟩ i hi
    rcases (by omega : i = 0 ∨ i = 1 ∨ i = 2) with rfl | rfl | rfl
    · exact ⟨g1, g2⟩
    · exact ⟨g3, g4⟩
    · exact ⟨g5, g6⟩
theorem check3 (ax ay bx by' cx cy : Nat) (W : World) (h1 : Fin64 ax) (h2 : Fin64 ay) (h3 : Fin64 bx) (h4 : Fin64 by') (h5 : Fin64 cx) (h6 : Fin64 cy) :
    Calls Tryz.prog 11 #[.slice (some ⟨W.heap.size, 0, none⟩) 3 3] (six W (iw ax) (iw ay) (iw bx) (iw by') (iw cx) (iw cy)) fun e w' => e = .returned (.int .i64 0) ∧ Turn (fun _ => False) (six W (iw ax) (iw ay) (iw bx) (iw by') (iw cx) (iw cy)) w' :=
  ocheck_any W.heap.size 3 3 _ _ _ (by omega) (pts3 W ax ay bx by' cx cy h1 h2 h3 h4 h5 h6)
theorem tames3 (ax ay bx by' cx cy : Nat) (W : World) (h1 : Fin64 ax) (h2 : Fin64 ay) (h3 : Fin64 bx) (h4 : Fin64 by') (h5 : Fin64 cx) (h6 : Fin64 cy) :
    Calls Tryz.prog 12 #[.slice (some ⟨W.heap.size, 0, none⟩) 3 3] (six W (iw ax) (iw ay) (iw bx) (iw by') (iw cx) (iw cy)) fun e w' => e = .returned (.bool (tm ax && (tm ay && (tm bx && (tm by' && (tm cx && tm cy)))))) ∧ Turn (fun _ => False) (six W (iw ax) (iw ay) (iw bx) (iw by') (iw cx) (iw cy)) w' :=
  (oTames_any W.heap.size 3 3 _ _ _ (by omega) (pts3 W ax ay bx by' cx cy h1 h2 h3 h4 h5 h6)).mono fun e w' ⟨v, he, hv, t⟩ => ⟨by rw [he, three_tame hv], t⟩
theorem oSign_any (ax ay bx by' cx cy : Nat) (w : World) (h1 : Fin64 ax) (h2 : Fin64 ay) (h3 : Fin64 bx) (h4 : Fin64 by') (h5 : Fin64 cx) (h6 : Fin64 cy) (hT : Tab w) (hK : Kar w) (hN : Non w) :
    Calls Tryz.prog 7 #[.agg #[.int .i64 (iw ax), .int .i64 (iw ay)], .agg #[.int .i64 (iw bx), .int .i64 (iw by')], .agg #[.int .i64 (iw cx), .int .i64 (iw cy)]] w (SiR (fun _ => True) w (sgn (dt ax ay bx by' cx cy))) := by
  refine oSign_gen (fun _ => True) (iw ax) (iw ay) (iw bx) (iw by') (iw cx) (iw cy) _ _ w (fun W _ => check3 ax ay bx by' cx cy W h1 h2 h3 h4 h5 h6) (fun W _ => tames3 ax ay bx by' cx cy W h1 h2 h3 h4 h5 h6) (fun h W t => ?_) (fun _ W t => ?_)
  · rw [Bool.and_eq_true, Bool.and_eq_true, Bool.and_eq_true, Bool.and_eq_true, Bool.and_eq_true] at h
    obtain ⟨t1, t2, t3, t4, t5, t6⟩ := h
    exact (oTame_any ax ay bx by' cx cy W h1 h2 h3 h4 h5 h6 t1 t2 t3 t4 t5 t6 (hT.still t) (hK.still t)).mono fun e w' ⟨st, he, ht⟩ => ⟨st, he, trivial, ht⟩
  · exact (oWild_any ax ay bx by' cx cy W h1 h2 h3 h4 h5 h6 (hT.still t) (hK.still t) (hN.still t)).mono fun e w' ⟨st, he, ht⟩ => ⟨st, he, trivial, ht⟩
theorem alive_any (w : World) : Calls Tryz.prog 4 #[] w (BR w true) := by
  have i0 : iw 0 = 0 := by decide
  have i1 : iw 4607182418800017408 = 4607182418800017408 := by decide
  have f0 : Fin64 0 := ⟨by omega, by omega⟩
  have f1 : Fin64 4607182418800017408 := ⟨by omega, by omega⟩
  have v0 := fun w => Value_any 0 w f0.1
  have v1 := fun w => Value_any 4607182418800017408 w f1.1
  have s1 := fun w => SignOf_any 4607182418800017408 w f1.nn
  have g1 : sgn (rk 4607182418800017408) = 1 := by decide +kernel
  have hC := fun W => check3 0 0 4607182418800017408 0 0 4607182418800017408 W f0 f0 f1 f0 f0 f1
  have hT := fun W => tames3 0 0 4607182418800017408 0 0 4607182418800017408 W f0 f0 f1 f0 f0 f1
  have e : (tm 0 && (tm 0 && (tm 4607182418800017408 && (tm 0 && (tm 0 && tm 4607182418800017408))))) = true := by decide +kernel
  rw [e] at hT
  rw [i0, i1] at hC hT
  rw [i0] at v0
  rw [i1] at v1
  rw [g1] at s1
  refine alive_gen w fun W t => oSign_gen (fun st => st = 1) 0 0 4607182418800017408 0 0 4607182418800017408 1 true W (fun W _ => hC W) (fun W _ => hT W) (fun _ W _ => ?_) (fun h => by cases h)
  have q : TmH 0 0 4607182418800017408 0 0 4607182418800017408 0 0 4607182418800017408 0 0 4607182418800017408 0 13830554455654793216 4607182418800017408 13830554455654793216 9223372036854775808 13830554455654793216 4607182418800017408 :=
    ⟨v0, v0, v1, v0, v0, v1, by kernel_rfl, by kernel_rfl, by kernel_rfl, by kernel_rfl, by kernel_rfl, by kernel_rfl, by kernel_rfl⟩
  exact (tame_0 W q (by kernel_rfl) s1).mono fun e w' ⟨he, ht⟩ => ⟨1, he, rfl, ht⟩
theorem fin_two {x y : Nat} (hx : x < 18446744073709551616) (hy : y < 18446744073709551616) : (fi x && fi y) = true ↔ Fin64 x ∧ Fin64 y := by
  rw [Bool.and_eq_true, fi_iff hx, fi_iff hy]
theorem law_words (ax ay bx by' cx cy : Nat) (k : Int) (w : World) (h1 : ax < 18446744073709551616) (h2 : ay < 18446744073709551616) (h3 : bx < 18446744073709551616) (h4 : by' < 18446744073709551616) (h5 : cx < 18446744073709551616) (h6 : cy < 18446744073709551616) (hT : Tab w) (hK : Kar w) (hN : Non w) :
    Calls Tryz.prog 3 #[.agg #[.int .i64 (iw ax), .int .i64 (iw ay)], .agg #[.int .i64 (iw bx), .int .i64 (iw by')], .agg #[.int .i64 (iw cx), .int .i64 (iw cy)], .int .i64 k] w (BR w true) := by
  have hA := fun W (_ : Turn (fun _ => False) w W) => alive_any W
  have hG := fun W => good_gen (iw ax) (iw ay) (iw bx) (iw by') (iw cx) (iw cy) _ _ _ W (fun w => finite_gen _ _ _ _ w (fun w => coord_any ax w h1) (fun w => coord_any ay w h2)) (fun w => finite_gen _ _ _ _ w (fun w => coord_any bx w h3) (fun w => coord_any by' w h4)) (fun w => finite_gen _ _ _ _ w (fun w => coord_any cx w h5) (fun w => coord_any cy w h6))
  by_cases hg : (fi ax && fi ay && (fi bx && fi by' && (fi cx && fi cy))) = true
  · by_cases hk : k < -600 ∨ k > 600
    · exact law_a _ _ _ _ _ _ k _ w hA hG (.inr hk)
    · rw [hg] at hG
      rw [Bool.and_eq_true (fi ax && fi ay), Bool.and_eq_true (fi bx && fi by'), fin_two h1 h2, fin_two h3 h4, fin_two h5 h6] at hg
      obtain ⟨⟨f1, f2⟩, ⟨f3, f4⟩, f5, f6⟩ := hg
      have k1 : -600 ≤ k := by omega
      have k2 : k ≤ 600 := by omega
      refine law_b _ _ _ _ _ _ k (iw (scW ax k)) (iw (scW ay k)) (iw (scW bx k)) (iw (scW by' k)) (iw (scW cx k)) (iw (scW cy k)) (sgn (dt ax ay bx by' cx cy)) (scO ax k && scO ay k) (scO bx k && scO by' k) (scO cx k && scO cy k) w (by omega) (by omega) hA hG
        (fun W => scaled_gen _ _ _ _ _ _ _ W (fun w => Scaled_any ax k w f1 k1 k2) (fun w => Scaled_any ay k w f2 k1 k2)) (fun W => scaled_gen _ _ _ _ _ _ _ W (fun w => Scaled_any bx k w f3 k1 k2) (fun w => Scaled_any by' k w f4 k1 k2)) (fun W => scaled_gen _ _ _ _ _ _ _ W (fun w => Scaled_any cx k w f5 k1 k2) (fun w => Scaled_any cy k w f6 k1 k2))
        (fun W t => oSign_any ax ay bx by' cx cy W f1 f2 f3 f4 f5 f6 (hT.still t) (hK.still t) (hN.still t)) (fun o1 o2 o3 W t => ?_)
      rw [Bool.and_eq_true] at o1 o2 o3
      have c1 := scl_of f1 k1 k2 o1.1
      have c2 := scl_of f2 k1 k2 o1.2
      have c3 := scl_of f3 k1 k2 o2.1
      have c4 := scl_of f4 k1 k2 o2.2
      have c5 := scl_of f5 k1 k2 o3.1
      have c6 := scl_of f6 k1 k2 o3.2
      rw [← sgn_scl c1 c2 c3 c4 c5 c6]
      exact oSign_any _ _ _ _ _ _ W c1.fin c2.fin c3.fin c4.fin c5.fin c6.fin (hT.still t) (hK.still t) (hN.still t)
  · exact law_a _ _ _ _ _ _ k _ w hA hG (.inl (Bool.eq_false_iff.2 hg))
theorem law_any (a b c d e f k : Int) (h1 : -9223372036854775808 ≤ a ∧ a ≤ 9223372036854775807) (h2 : -9223372036854775808 ≤ b ∧ b ≤ 9223372036854775807) (h3 : -9223372036854775808 ≤ c ∧ c ≤ 9223372036854775807) (h4 : -9223372036854775808 ≤ d ∧ d ≤ 9223372036854775807) (h5 : -9223372036854775808 ≤ e ∧ e ≤ 9223372036854775807) (h6 : -9223372036854775808 ≤ f ∧ f ≤ 9223372036854775807) (w : World) (hT : Tab w) (hK : Kar w) (hN : Non w) :
    Calls Tryz.prog 3 #[.agg #[.int .i64 a, .int .i64 b], .agg #[.int .i64 c, .int .i64 d], .agg #[.int .i64 e, .int .i64 f], .int .i64 k] w (BR w true) := by
  obtain ⟨n1, g1, rfl⟩ := of_int h1.1 h1.2
  obtain ⟨n2, g2, rfl⟩ := of_int h2.1 h2.2
  obtain ⟨n3, g3, rfl⟩ := of_int h3.1 h3.2
  obtain ⟨n4, g4, rfl⟩ := of_int h4.1 h4.2
  obtain ⟨n5, g5, rfl⟩ := of_int h5.1 h5.2
  obtain ⟨n6, g6, rfl⟩ := of_int h6.1 h6.2
  exact law_words n1 n2 n3 n4 n5 n6 k w g1 g2 g3 g4 g5 g6 hT hK hN
end
end Go.Proofs.YtllapbkoildfiaaGreatFmt
