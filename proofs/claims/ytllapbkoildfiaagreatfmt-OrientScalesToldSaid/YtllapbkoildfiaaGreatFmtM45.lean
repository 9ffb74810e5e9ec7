/- orient: wild. -/
import Derived.Test.YtllapbkoildfiaaGreatFmtM44
set_option linter.all false
set_option exponentiation.threshold 100000
namespace Go.Proofs.YtllapbkoildfiaaGreatFmt
section
open Go.RowKit
theorem cell_alloc {w : World} {o : Obj} {p : Addr} {v : Value} (h : w.cell? p = some v) : (w.alloc o).cell? p = some v :=
  (((Turn.refl (fun _ => False) w).alloc o).cell (World.block_lt_of_cell? w _ h) id).trans h
theorem cell_ad {w : World} {o : Obj} {p : Addr} {v : Value} (h : w.drew.cell? p = some v) : ((w.alloc o).drew).cell? p = some v := cell_alloc (w := w) h
theorem keep_still {W W' : World} {c : Nat} {L : List Nat} (h : ∀ b, b ∈ L → c < b ∧ SB W b 0 0) (t : Turn (fun _ => False) W W') : ∀ b, b ∈ L → c < b ∧ SB W' b 0 0 := fun b hb => ⟨(h b hb).1, (h b hb).2.still t⟩
theorem one_keep {W : World} {c b : Nat} (h : c < b) (k : SB W b 0 0) : ∀ j, j ∈ [b] → c < j ∧ SB W j 0 0 := fun j hj => by
  rw [List.mem_singleton] at hj
  subst hj
  exact ⟨h, k⟩
abbrev set2w (W : World) (b : Nat) (P Q : Int) : World := (W.setCell ⟨b, 0, none⟩ (.int .i64 P)).setCell ⟨b, 1, none⟩ (.int .i64 Q)
theorem set2w_turn (W : World) (b : Nat) (P Q : Int) : Turn (fun k => k = b) W (set2w W b P Q) := (set_turn W b 0 _).trans' (set_turn _ b 1 _)
theorem SB.other {W : World} {b c : Nat} {X Y : Int} (h : SB W c X Y) (hne : c ≠ b) (P Q : Int) : SB (set2w W b P Q) c X Y :=
  have t := set2w_turn W b P Q
  ⟨(t.cell (p := ⟨c, 0, none⟩) h.lt hne).trans h.c0, (t.cell (p := ⟨c, 1, none⟩) h.lt hne).trans h.c1, fun i => (t.frozen (p := ⟨c, i, none⟩) h.lt hne).trans (h.fz i)⟩
theorem P3.other {w W : World} {ax ay bx by' cx cy : Int} {b : Nat} (h : P3 w W ax ay bx by' cx cy) (hb : w.heap.size + 1 + 1 + 1 < b) (P Q : Int) : P3 w (set2w W b P Q) ax ay bx by' cx cy :=
  ⟨h.a.other (by omega) P Q, h.b.other (by omega) P Q, h.c.other (by omega) P Q, h.turn.trans (set2w_turn W b P Q) fun k hk e => by (have : k = b := e; omega)⟩
set_option maxRecDepth 100000 in
set_option maxHeartbeats 8000000 in
theorem oWild_gen (ax ay bx by' cx cy : Int) (U1 U2 U3 U4 : Int) (w : World)
    (g1 : ∀ W, Turn (fun _ => False) w W → Calls Tryz.prog 21 #[.int .i64 ax, .int .i64 cx] W (SqR W U1 0))
    (g2 : ∀ W, Turn (fun _ => False) w W → Calls Tryz.prog 21 #[.int .i64 by', .int .i64 cy] W (SqR W U2 0))
    (g3 : ∀ W, Turn (fun _ => False) w W → Calls Tryz.prog 21 #[.int .i64 ay, .int .i64 cy] W (SqR W U3 0))
    (g4 : ∀ W, Turn (fun _ => False) w W → Calls Tryz.prog 21 #[.int .i64 bx, .int .i64 cx] W (SqR W U4 0))
    (m1 : ∀ W lo hi lo2 hi2, Turn (fun _ => False) w W → Enc lo hi U1 0 → Enc lo2 hi2 U2 0 → Calls Tryz.prog 20 #[spv (iw lo) (iw hi), spv (iw lo2) (iw hi2)] W (SqR W (U1 * U2) 1074))
    (m2 : ∀ W lo hi lo2 hi2, Turn (fun _ => False) w W → Enc lo hi U3 0 → Enc lo2 hi2 U4 0 → Calls Tryz.prog 20 #[spv (iw lo) (iw hi), spv (iw lo2) (iw hi2)] W (SqR W (U3 * U4) 1074))
    (m3 : ∀ W lo hi lo2 hi2, Turn (fun _ => False) w W → Enc lo hi (U1 * U2) 1074 → Enc lo2 hi2 (U3 * U4) 1074 → Calls Tryz.prog 19 #[spv (iw lo) (iw hi), spv (iw lo2) (iw hi2)] W (SqR W (U1 * U2 - U3 * U4) 1074))
    (m4 : ∀ W lo hi, P3 w W ax ay bx by' cx cy → Enc lo hi (U1 * U2 - U3 * U4) 1074 → Calls Tryz.prog 22 #[spv (iw lo) (iw hi), .func (.func 23) #[] #[.pointer (some ⟨w.heap.size, 0, none⟩), .pointer (some ⟨w.heap.size + 1, 0, none⟩), .pointer (some ⟨w.heap.size + 1 + 1, 0, none⟩)]] W (StR W (sgn (U1 * U2 - U3 * U4)))) :
    Calls Tryz.prog 13 #[spv ax ay, spv bx by', spv cx cy] w (StR w (sgn (U1 * U2 - U3 * U4))) := by
  obtain ⟨p1, s1⟩ := pt3_ok w ax ay bx by' cx cy
  have r3 : SB ((pt3 w ax ay bx by' cx cy).alloc (.cells #[.int .i64 0, .int .i64 0] 29)) (pt3 w ax ay bx by' cx cy).heap.size 0 0 := ⟨cell_made _ _ _ 0, cell_made _ _ _ 1, fun i => frozen_made _ _ _ i⟩
  have t2 := (Turn.refl (fun _ => False) (pt3 w ax ay bx by' cx cy)).alloc (.cells #[.int .i64 0, .int .i64 0] 29)
  have p3 := p1.still t2
  rw [s1] at r3
  have p0 := Lib.hid p3
  have r0 := Lib.hid r3
  have hsz0 := Lib.hid r3.lt
  have hs0 : ((pt3 w ax ay bx by' cx cy).alloc (.cells #[.int .i64 0, .int .i64 0] 29)).heap.size = w.heap.size + 1 + 1 + 1 + 1 := by rw [size_alloc, s1]
  replace hs0 := Lib.hid hs0
  have p4 := p3.still (Turn.refl (fun _ => False) _).drew
  have r4 := Lib.hid (r3.still (Turn.refl (fun _ => False) _).drew)
  have e0 := p4.a.c0
  have e1 := p4.a.c1
  have e2 := p4.b.c0
  have e3 := p4.b.c1
  have e4 := p4.c.c0
  have e5 := p4.c.c1
  have p := Lib.hid p4
  have r := r4
  have kb : Hid (∀ b, b ∈ ([] : List Nat) → w.heap.size + 1 + 1 + 1 < b ∧ SB (((pt3 w ax ay bx by' cx cy).alloc (.cells #[.int .i64 0, .int .i64 0] 29)).drew) b 0 0) := Lib.hid fun b hb => absurd hb (List.not_mem_nil)
  have hsz := Lib.hid r4.out.lt
  replace g1 := Lib.hid g1
  replace g2 := Lib.hid g2
  replace g3 := Lib.hid g3
  replace g4 := Lib.hid g4
  replace m1 := Lib.hid m1
  replace m2 := Lib.hid m2
  replace m3 := Lib.hid m3
  replace m4 := Lib.hid m4
  clear p1 s1 r3 t2 p3 p4 r4
  go_enter Tryz.func13, Tryz.ntmps13
  go_wp2_with fail
  go_region_held3 (fun wx => wx.cell? ⟨w.heap.size, 0, none⟩ = some (.int .i64 ax) ∧ wx.cell? ⟨w.heap.size, 1, none⟩ = some (.int .i64 ay) ∧ wx.cell? ⟨w.heap.size + 1, 0, none⟩ = some (.int .i64 bx) ∧ wx.cell? ⟨w.heap.size + 1, 1, none⟩ = some (.int .i64 by') ∧ wx.cell? ⟨w.heap.size + 1 + 1, 0, none⟩ = some (.int .i64 cx) ∧ wx.cell? ⟨w.heap.size + 1 + 1, 1, none⟩ = some (.int .i64 cy))
    (first | (refine ⟨?_, ?_, ?_, ?_, ?_, ?_⟩ <;> with_reducible assumption) | (refine ⟨?_, ?_, ?_, ?_, ?_, ?_⟩ <;> (first | (with_reducible refine cell_alloc ?_; with_reducible assumption) | (with_reducible refine cell_ad ?_; with_reducible assumption) | (with_reducible refine cell_two ?_ (by assumption); dsimp only; omega))))
    (first
      | (go_at_call 21; (have cc := g1.out _ p.out.turn); ((with_reducible refine cc.mono ?_)); rintro en w1 ⟨l1, h1, rfl, n1, h⟩
         have q := p.out.still h
         have e0 := q.a.c0
         have e1 := q.a.c1
         have e2 := q.b.c0
         have e3 := q.b.c1
         have e4 := q.c.c0
         have e5 := q.c.c1
         replace n1 := Lib.hid n1
         replace r := Lib.hid (r.out.still h)
         replace p := Lib.hid q
         replace hsz := Lib.hid (Nat.lt_of_lt_of_le hsz.out h.size)
         replace kb := Lib.hid (keep_still kb.out h)
         clear cc h q)
      | (go_at_call 21; (have cc := g1.out _ (p0.out.turn.alloc (.cells #[.int .i64 0, .int .i64 0] 47)).drew); ((with_reducible refine cc.mono ?_)); rintro en w1 ⟨l1, h1, rfl, n1, h⟩
         have ta := (((Turn.refl (fun _ => False) _).alloc (.cells #[.int .i64 0, .int .i64 0] 47)).drew).trans' h
         have sb := (SB.made ((pt3 w ax ay bx by' cx cy).alloc (.cells #[.int .i64 0, .int .i64 0] 29)) 0 0).still ((Turn.refl (fun _ => False) _).drew.trans' h)
         rw [hs0.out] at sb
         have q := p0.out.still ta
         have e0 := q.a.c0
         have e1 := q.a.c1
         have e2 := q.b.c0
         have e3 := q.b.c1
         have e4 := q.c.c0
         have e5 := q.c.c1
         replace n1 := Lib.hid n1
         replace r := Lib.hid (r0.out.still ta)
         replace p := Lib.hid q
         replace kb := Lib.hid (one_keep (show w.heap.size + 1 + 1 + 1 < w.heap.size + 1 + 1 + 1 + 1 by omega) sb)
         replace hsz := Lib.hid (Nat.lt_of_lt_of_le hsz0.out ta.size)
         clear cc h q ta sb)
      | (go_at_call 21; (have cc := g2.out _ p.out.turn); ((with_reducible refine cc.mono ?_)); rintro en w2 ⟨l2, h2, rfl, n2, h⟩
         have q := p.out.still h
         have e0 := q.a.c0
         have e1 := q.a.c1
         have e2 := q.b.c0
         have e3 := q.b.c1
         have e4 := q.c.c0
         have e5 := q.c.c1
         replace n2 := Lib.hid n2
         replace r := Lib.hid (r.out.still h)
         replace p := Lib.hid q
         replace hsz := Lib.hid (Nat.lt_of_lt_of_le hsz.out h.size)
         replace kb := Lib.hid (keep_still kb.out h)
         clear cc h q)
      | (go_at_call 21; (have cc := g2.out _ (p.out.turn.alloc (.cells #[.int .i64 0, .int .i64 0] 47))); ((with_reducible refine cc.mono ?_)); rintro en w2 ⟨l2, h2, rfl, n2, h⟩
         have ta := ((Turn.refl (fun _ => False) _).alloc (.cells #[.int .i64 0, .int .i64 0] 47)).trans' h
         have sb := (SB.made _ 0 0).still h
         have q := p.out.still ta
         have e0 := q.a.c0
         have e1 := q.a.c1
         have e2 := q.b.c0
         have e3 := q.b.c1
         have e4 := q.c.c0
         have e5 := q.c.c1
         replace n2 := Lib.hid n2
         replace r := Lib.hid (r.out.still ta)
         replace p := Lib.hid q
         replace kb := Lib.hid (one_keep hsz.out sb)
         replace hsz := Lib.hid (Nat.lt_of_lt_of_le hsz.out ta.size)
         clear cc h q ta sb)
      | (go_at_call 20; (have cc := m1.out _ _ _ _ _ p.out.turn n1.out n2.out); ((with_reducible refine cc.mono ?_)); rintro en w3 ⟨l3, h3, rfl, n3, h⟩
         have q := p.out.still h
         have e0 := q.a.c0
         have e1 := q.a.c1
         have e2 := q.b.c0
         have e3 := q.b.c1
         have e4 := q.c.c0
         have e5 := q.c.c1
         replace n3 := Lib.hid n3
         replace r := Lib.hid (r.out.still h)
         replace p := Lib.hid q
         replace hsz := Lib.hid (Nat.lt_of_lt_of_le hsz.out h.size)
         replace kb := Lib.hid (keep_still kb.out h)
         clear cc h q)
      | (go_at_call 20; (have cc := m1.out _ _ _ _ _ (p.out.turn.alloc (.cells #[.int .i64 0, .int .i64 0] 47)) n1.out n2.out); ((with_reducible refine cc.mono ?_)); rintro en w3 ⟨l3, h3, rfl, n3, h⟩
         have ta := ((Turn.refl (fun _ => False) _).alloc (.cells #[.int .i64 0, .int .i64 0] 47)).trans' h
         have sb := (SB.made _ 0 0).still h
         have q := p.out.still ta
         have e0 := q.a.c0
         have e1 := q.a.c1
         have e2 := q.b.c0
         have e3 := q.b.c1
         have e4 := q.c.c0
         have e5 := q.c.c1
         replace n3 := Lib.hid n3
         replace r := Lib.hid (r.out.still ta)
         replace p := Lib.hid q
         replace kb := Lib.hid (one_keep hsz.out sb)
         replace hsz := Lib.hid (Nat.lt_of_lt_of_le hsz.out ta.size)
         clear cc h q ta sb)
      | (go_at_call 21; (have cc := g3.out _ p.out.turn); ((with_reducible refine cc.mono ?_)); rintro en w4 ⟨l4, h4, rfl, n4, h⟩
         have q := p.out.still h
         have e0 := q.a.c0
         have e1 := q.a.c1
         have e2 := q.b.c0
         have e3 := q.b.c1
         have e4 := q.c.c0
         have e5 := q.c.c1
         replace n4 := Lib.hid n4
         replace r := Lib.hid (r.out.still h)
         replace p := Lib.hid q
         replace hsz := Lib.hid (Nat.lt_of_lt_of_le hsz.out h.size)
         replace kb := Lib.hid (keep_still kb.out h)
         clear cc h q)
      | (go_at_call 21; (have cc := g3.out _ (p.out.turn.alloc (.cells #[.int .i64 0, .int .i64 0] 47))); ((with_reducible refine cc.mono ?_)); rintro en w4 ⟨l4, h4, rfl, n4, h⟩
         have ta := ((Turn.refl (fun _ => False) _).alloc (.cells #[.int .i64 0, .int .i64 0] 47)).trans' h
         have sb := (SB.made _ 0 0).still h
         have q := p.out.still ta
         have e0 := q.a.c0
         have e1 := q.a.c1
         have e2 := q.b.c0
         have e3 := q.b.c1
         have e4 := q.c.c0
         have e5 := q.c.c1
         replace n4 := Lib.hid n4
         replace r := Lib.hid (r.out.still ta)
         replace p := Lib.hid q
         replace kb := Lib.hid (one_keep hsz.out sb)
         replace hsz := Lib.hid (Nat.lt_of_lt_of_le hsz.out ta.size)
         clear cc h q ta sb)
      | (go_at_call 21; (have cc := g4.out _ p.out.turn); ((with_reducible refine cc.mono ?_)); rintro en w5 ⟨l5, h5, rfl, n5, h⟩
         have q := p.out.still h
         have e0 := q.a.c0
         have e1 := q.a.c1
         have e2 := q.b.c0
         have e3 := q.b.c1
         have e4 := q.c.c0
         have e5 := q.c.c1
         replace n5 := Lib.hid n5
         replace r := Lib.hid (r.out.still h)
         replace p := Lib.hid q
         replace hsz := Lib.hid (Nat.lt_of_lt_of_le hsz.out h.size)
         replace kb := Lib.hid (keep_still kb.out h)
         clear cc h q)
      | (go_at_call 21; (have cc := g4.out _ (p.out.turn.alloc (.cells #[.int .i64 0, .int .i64 0] 47))); ((with_reducible refine cc.mono ?_)); rintro en w5 ⟨l5, h5, rfl, n5, h⟩
         have ta := ((Turn.refl (fun _ => False) _).alloc (.cells #[.int .i64 0, .int .i64 0] 47)).trans' h
         have sb := (SB.made _ 0 0).still h
         have q := p.out.still ta
         have e0 := q.a.c0
         have e1 := q.a.c1
         have e2 := q.b.c0
         have e3 := q.b.c1
         have e4 := q.c.c0
         have e5 := q.c.c1
         replace n5 := Lib.hid n5
         replace r := Lib.hid (r.out.still ta)
         replace p := Lib.hid q
         replace kb := Lib.hid (one_keep hsz.out sb)
         replace hsz := Lib.hid (Nat.lt_of_lt_of_le hsz.out ta.size)
         clear cc h q ta sb)
      | (go_at_call 20; (have cc := m2.out _ _ _ _ _ p.out.turn n4.out n5.out); ((with_reducible refine cc.mono ?_)); rintro en w6 ⟨l6, h6, rfl, n6, h⟩
         have q := p.out.still h
         have e0 := q.a.c0
         have e1 := q.a.c1
         have e2 := q.b.c0
         have e3 := q.b.c1
         have e4 := q.c.c0
         have e5 := q.c.c1
         replace n6 := Lib.hid n6
         replace r := Lib.hid (r.out.still h)
         replace p := Lib.hid q
         replace hsz := Lib.hid (Nat.lt_of_lt_of_le hsz.out h.size)
         replace kb := Lib.hid (keep_still kb.out h)
         clear cc h q)
      | (go_at_call 20; (have cc := m2.out _ _ _ _ _ (p.out.turn.alloc (.cells #[.int .i64 0, .int .i64 0] 47)) n4.out n5.out); ((with_reducible refine cc.mono ?_)); rintro en w6 ⟨l6, h6, rfl, n6, h⟩
         have ta := ((Turn.refl (fun _ => False) _).alloc (.cells #[.int .i64 0, .int .i64 0] 47)).trans' h
         have sb := (SB.made _ 0 0).still h
         have q := p.out.still ta
         have e0 := q.a.c0
         have e1 := q.a.c1
         have e2 := q.b.c0
         have e3 := q.b.c1
         have e4 := q.c.c0
         have e5 := q.c.c1
         replace n6 := Lib.hid n6
         replace r := Lib.hid (r.out.still ta)
         replace p := Lib.hid q
         replace kb := Lib.hid (one_keep hsz.out sb)
         replace hsz := Lib.hid (Nat.lt_of_lt_of_le hsz.out ta.size)
         clear cc h q ta sb)
      | (go_at_call 19; (have rb := (kb.out _ (List.mem_singleton.2 rfl)).2); (have hb := (kb.out _ (List.mem_singleton.2 rfl)).1); (have cc := m3.out _ _ _ _ _ p.out.turn n3.out n6.out); ((with_reducible refine cc.mono ?_)); rintro en w7 ⟨l7, h7, rfl, n7, h⟩
         obtain ⟨P, hP⟩ : ∃ P, P = iw l7 := ⟨_, rfl⟩
         obtain ⟨Q, hQ⟩ : ∃ Q, Q = iw h7 := ⟨_, rfl⟩
         rw [← hP, ← hQ]
         replace hP := Lib.hid hP
         replace hQ := Lib.hid hQ
         have q := p.out.still h
         have rr := r.out.still h
         replace rb := rb.still h
         have e0 := q.a.c0
         have e1 := q.a.c1
         have e2 := q.b.c0
         have e3 := q.b.c1
         have e4 := q.c.c0
         have e5 := q.c.c1
         have u0 := rb.c0
         have u1 := rb.c1
         have u2 := rb.fz 0
         have u3 := rb.fz 1
         have hm := Lib.hid (rb.put P Q).1
         have hP3 := Lib.hid (q.other hb P Q)
         have hr := Lib.hid (rr.other (Nat.ne_of_lt hb) P Q)
         replace n7 := Lib.hid n7
         clear cc h q rr rb)
      | (go_at_call 19; (have cc := m3.out _ _ _ _ _ p.out.turn n3.out n6.out); ((with_reducible refine cc.mono ?_)); rintro en w7 ⟨l7, h7, rfl, n7, h⟩
         obtain ⟨P, hP⟩ : ∃ P, P = iw l7 := ⟨_, rfl⟩
         obtain ⟨Q, hQ⟩ : ∃ Q, Q = iw h7 := ⟨_, rfl⟩
         rw [← hP, ← hQ]
         replace hP := Lib.hid hP
         replace hQ := Lib.hid hQ
         have ta := (Turn.refl (fun _ => False) w7).alloc (.cells #[.int .i64 P, .int .i64 Q] 47)
         have q := p.out.still h
         have e0 := q.a.c0
         have e1 := q.a.c1
         have e2 := q.b.c0
         have e3 := q.b.c1
         have e4 := q.c.c0
         have e5 := q.c.c1
         have hm := Lib.hid (show (w7.alloc (.cells #[.int .i64 P, .int .i64 Q] 47)).cell? ⟨w7.heap.size, 0, none⟩ = some (.int .i64 P) ∧ (w7.alloc (.cells #[.int .i64 P, .int .i64 Q] 47)).cell? ⟨w7.heap.size, 1, none⟩ = some (.int .i64 Q) from ⟨cell_made _ _ _ 0, cell_made _ _ _ 1⟩)
         have hP3 := Lib.hid (q.still ta)
         have hr := Lib.hid ((r.out.still h).still ta)
         replace n7 := Lib.hid n7
         clear cc h q ta)
      | (go_at_call 19; (have cc := m3.out _ _ _ _ _ (p.out.turn.alloc (.cells #[.int .i64 0, .int .i64 0] 47)) n3.out n6.out); ((with_reducible refine cc.mono ?_)); rintro en w7 ⟨l7, h7, rfl, n7, h⟩
         obtain ⟨P, hP⟩ : ∃ P, P = iw l7 := ⟨_, rfl⟩
         obtain ⟨Q, hQ⟩ : ∃ Q, Q = iw h7 := ⟨_, rfl⟩
         rw [← hP, ← hQ]
         replace hP := Lib.hid hP
         replace hQ := Lib.hid hQ
         have ta := ((Turn.refl (fun _ => False) _).alloc (.cells #[.int .i64 0, .int .i64 0] 47)).trans' h
         have rb := (SB.made _ 0 0).still h
         have hb := hsz.out
         have q := p.out.still ta
         have rr := r.out.still ta
         have e0 := q.a.c0
         have e1 := q.a.c1
         have e2 := q.b.c0
         have e3 := q.b.c1
         have e4 := q.c.c0
         have e5 := q.c.c1
         have u0 := rb.c0
         have u1 := rb.c1
         have u2 := rb.fz 0
         have u3 := rb.fz 1
         have hm := Lib.hid (rb.put P Q).1
         have hP3 := Lib.hid (q.other hb P Q)
         have hr := Lib.hid (rr.other (Nat.ne_of_lt hb) P Q)
         replace n7 := Lib.hid n7
         clear cc h q ta rb rr))
  all_goals (
    obtain ⟨q0, q1⟩ := hm.out
    have cc := m4.out _ l7 h7 hP3.out n7.out
    rw [← hP.out, ← hQ.out] at cc
    have tt := Lib.hid hP3.out.turn
    generalize hu : sgn (U1 * U2 - U3 * U4) = u at *
    clear p0 r0 hsz0 hs0 e0 e1 e2 e3 e4 e5 m1 m2 m3 m4 g1 g2 g3 g4 p r kb hsz n1 n2 n3 n4 n5 n6 n7 hP3 hP hQ hm
    go_wp2_with (go_at_call 22; ((with_reducible refine cc.mono ?_)); rintro en w8 ⟨st, rfl, h⟩
                 have r9 := hr.out.still h
                 have z0 := r9.c0
                 have z1 := r9.c1
                 have z2 := r9.fz 0
                 have z3 := r9.fz 1
                 obtain ⟨⟨y0, y1⟩, hp⟩ := r9.put u st
                 have hfin := Lib.hid (show StR w u (.returned (.agg #[.int .i64 u, .int .i64 st])) _ from ⟨st, rfl, (tt.out.trans' h).trans hp fun k hk e => by (have : k = w.heap.size + 1 + 1 + 1 := e; omega)⟩)
                 clear h r9 hp cc)
    refine bodyPost_ret (v := .agg #[.int .i64 u, .int .i64 st]) (by simp [results, Tryz.results13, go_sem, y0, y1]) rfl ?_
    exact hfin.out)
theorem oWild_any (ax ay bx by' cx cy : Nat) (w : World) (h1 : Fin64 ax) (h2 : Fin64 ay) (h3 : Fin64 bx) (h4 : Fin64 by') (h5 : Fin64 cx) (h6 : Fin64 cy) (hT : Tab w) (hK : Kar w) (hN : Non w) :
    Calls Tryz.prog 13 #[spv (iw ax) (iw ay), spv (iw bx) (iw by'), spv (iw cx) (iw cy)] w (StR w (sgn (dt ax ay bx by' cx cy))) := by
  refine oWild_gen (iw ax) (iw ay) (iw bx) (iw by') (iw cx) (iw cy) _ _ _ _ w (fun W t => oBetween_any ax cx W h1 h5 (hT.still t)) (fun W t => oBetween_any by' cy W h4 h6 (hT.still t)) (fun W t => oBetween_any ay cy W h2 h6 (hT.still t)) (fun W t => oBetween_any bx cx W h3 h5 (hT.still t))
    (fun W _ _ _ _ t a b => oMul_any a b W (hT.still t) (hK.still t)) (fun W _ _ _ _ t a b => oMul_any a b W (hT.still t) (hK.still t)) (fun W _ _ _ _ t a b => oSub_any a b W (hT.still t)) (fun W lo hi p e => ?_)
  have t := p.turn
  refine oKnown_gen (iw lo) (iw hi) w.heap.size (w.heap.size + 1) (w.heap.size + 1 + 1) _ _ rfl W (fun W' t' => sSign_any e W' (hN.still (t.trans' t'))) (fun W' t' => ?_)
  exact oWild1_gen _ _ _ _ _ _ _ _ _ _ W' (p.a.still t') (p.b.still t') (p.c.still t') fun W2 t2 => oExact_any ax ay bx by' cx cy W2 h1 h2 h3 h4 h5 h6 (hT.still ((t.trans' t').trans' t2)) (hK.still ((t.trans' t').trans' t2))
end
end Go.Proofs.YtllapbkoildfiaaGreatFmt
