/- round: self, rounded to the nearest, To · round: value, finite · round: plus · round: times. -/
import Derived.Test.YtllapbkoildfiaaGreatFmtM38
import Derived.Test.YtllapbkoildfiaaGreatFmtM31
import Derived.Deep.RegionHeld3
set_option linter.all false
set_option exponentiation.threshold 100000
namespace Go.Proofs.YtllapbkoildfiaaGreatFmt
section
open Go.RowKit
structure N1 (w : World) (b q : Nat) (e : Int) : Prop where
  c0 : w.cell? ⟨b, 0, none⟩ = some (.pointer (some ⟨q, 0, none⟩))
  c1 : w.cell? ⟨b, 1, none⟩ = some (.int .i64 e)
  c2 : w.cell? ⟨b, 2, none⟩ = some (.bool false)
theorem N1.still {w w' : World} {b q : Nat} {e : Int} (h : N1 w b q e) (t : Turn (fun _ => False) w w') : N1 w' b q e := by
  have hl := World.block_lt_of_cell? w _ h.c0
  exact ⟨(t.cell (p := ⟨b, 0, none⟩) hl id).trans h.c0, (t.cell (p := ⟨b, 1, none⟩) hl id).trans h.c1, (t.cell (p := ⟨b, 2, none⟩) hl id).trans h.c2⟩
set_option maxRecDepth 100000 in
theorem self_any (b q c : Nat) (e : Int) (w : World) (h : N1 w b q e) : Calls Tryz.prog 76 #[.slice (some ⟨b, 0, none⟩) 1 c] w fun en w' => en = .returned (.tuple #[.agg #[.pointer (some ⟨q, 0, none⟩), .int .i64 e, .bool false], .int .i64 0]) ∧ Turn (fun _ => False) w w' := by
  have h1 := h.still ((Turn.refl (fun _ => False) w).alloc (.cells #[.pointer none, .int .i64 0, .bool false] 115))
  have c0 := h1.c0
  have c1 := h1.c1
  have c2 := h1.c2
  clear h h1
  go_enter Tryz.func76, Tryz.ntmps76
  go_wp2_with fail
  go_returns
  exact ⟨rfl, (Turn.refl (fun _ => False) w).alloc _⟩
theorem run_make_nb (w : World) :
    (Instr.makeSlice 148 (.int .i64 1) (.int .i64 1)).run Tryz.prog w = .ok (.slice (some ⟨w.heap.size, 0, none⟩) 1 1) (w.alloc (.cells #[.pointer none, .int .i64 0, .bool false] 115)) := by
  have i3 : (Tryz.prog.info? 115).map (fun i => (i.zero, i.size, i.bytes)) = some (some (.agg #[.pointer none, .int .i64 0, .bool false]), 3, 24) := by kernel_rfl
  obtain ⟨i0, hi, hz0, hz1, hz2⟩ := info_parts i3
  have hr := run_make (P := Tryz.prog) w 148 115 i0 (.agg #[.pointer none, .int .i64 0, .bool false]) (by kernel_rfl) hi hz0 .i64 .i64 1 1 (by omega) (by omega) (by rw [hz2]; omega) (by omega)
  rw [hr, hz1]
  have e : madeCells (Value.agg #[.pointer none, .int .i64 0, .bool false]).cells (Int.toNat 1 * 3) = #[.pointer none, .int .i64 0, .bool false] := by
    have : (Value.agg #[.pointer none, .int .i64 0, .bool false]).cells = #[.pointer none, .int .i64 0, .bool false] := by simp [Value.cells]
    rw [this]
    apply Array.ext
    · simp [madeCells]
    · intro i h1 h2
      have h3 : i < 3 := h2
      rcases (by omega : i = 0 ∨ i = 1 ∨ i = 2) with rfl | rfl | rfl <;> simp [madeCells]
  rw [e]
  rfl
theorem exp_hi {U m e : Int} {K N : Nat} (hm : m ≠ 0) (hval : U = m * 2 ^ (e + K).toNat) (hU : U.natAbs < 2 ^ N) : (e + K).toNat < N := by
  have h1 : U.natAbs = m.natAbs * 2 ^ (e + K).toNat := by rw [hval, abs_pow]
  have h2 : 2 ^ (e + K).toNat ≤ U.natAbs := by rw [h1]; exact Nat.le_mul_of_pos_left _ (by omega)
  exact (Nat.pow_lt_pow_iff_right (a := 2) (by omega)).1 (Nat.lt_of_le_of_lt h2 hU)
theorem sign_pow {m : Int} {n : Nat} : decide (m < 0) = decide (m * 2 ^ n < 0) := by
  rw [decide_eq_decide]
  have p := pow_pos2 n
  rcases Int.lt_trichotomy m 0 with g | g | g
  · have := Int.mul_neg_of_neg_of_pos g p; omega
  · subst g; rw [Int.zero_mul]
  · have := Int.mul_pos g p; omega
theorem near_to (q : Nat) (oq : Option (Nat × Nat)) (m e U : Int) (w : World) (hI : It w q oq m) (hb : bl m.natAbs ≤ 60000) (hval : U = m * 2 ^ (e + 1074).toNat) (hlo : -1074 ≤ e) (hE2 : e ≤ 1048576) (hU : U.natAbs < 2 ^ 2090) :
    ∃ r x, Calls Tryz.prog 77 #[.agg #[.pointer (some ⟨q, 0, none⟩), .int .i64 e, .bool false], .agg #[fnv 169]] w (ToR w r x) ∧ Fin64 r ∧ fv r = rn U := by
  by_cases hm : m = 0
  · subst hm
    rw [Int.zero_mul] at hval
    subst hval
    exact ⟨0, false, to_169_z q oq e w hI (by omega), nought_f.2.2.2, by rw [rn_zero]; exact nought_f.2.2.1⟩
  · have hx := exp_hi (K := 1074) hm hval hU
    obtain ⟨x, hT⟩ := to_way 169 _ (.inr (.inr rfl)) way_near q oq m e 0 w hI hm hb (by omega) (by omega)
    have hA : m.natAbs * 2 ^ (e + 1074 + (0 : Nat)).toNat = U.natAbs := by rw [hval, abs_pow]; congr 2; congr 1; omega
    rw [tw_near, hA, sign_pow (n := (e + 1074).toNat), ← hval] at hT
    have hn := near_ok U (rn_mid hU (by omega)).1
    exact ⟨_, x, hT, hn.1, hn.2⟩
structure RR (w1 : World) (ob : Nat) (U : Int) (k : Nat) (wr : World) : Prop where
  zero : k = 0 → wr = w1
  one : 0 < k → ∃ q oq m e, N1 wr ob q e ∧ It wr q oq m ∧ (∀ j, IB q oq j → ob < j) ∧ U = m * 2 ^ (e + 1074).toNat ∧ -1074 ≤ e ∧ e ≤ 1048576 ∧ bl m.natAbs ≤ 60000
  turn : Turn (fun k => k = ob) w1 wr
set_option maxRecDepth 100000 in
set_option maxHeartbeats 4000000 in
theorem rounded_near (lb : Nat) (v : Value) (U : Int) (s : Bool) (a : Option Addr) (n c : Nat) (E : Int) (w : World) (hv : v = .agg #[.bool s, .slice a n c, .int .i64 E]) (hN : NumK w v 1074 U) (h0 : w.cell? ⟨lb, 0, none⟩ = some (.bool s)) (h1 : w.cell? ⟨lb, 1, none⟩ = some (.slice a n c)) (h2 : w.cell? ⟨lb, 2, none⟩ = some (.int .i64 E)) (hU : U.natAbs < 2 ^ 2090) :
    Calls Tryz.prog 75 #[.int .i64 0, .slice (some ⟨lb, 0, none⟩) 1 1, fnv 76, fnv 77, .int .i64 (-9223372036854775808)] w
      fun en w' => ∃ r x, en = .returned (.tuple #[.int .i64 (iw r), .bool x, .int .i64 0]) ∧ Fin64 r ∧ fv r = rn U ∧ Turn (fun _ => False) w w' := by
  subst hv
  have hmk := run_make_nb
  have hFd : Calls Tryz.prog 104 #[.int .i64 0] w fun e w' => e = .returned (.tuple #[.agg #[fnv 169], .bool true]) ∧ Turn (fun _ => False) w w' := find_any 0 (by omega) w
  have hlb := World.block_lt_of_cell? w _ h0
  replace hN := Lib.hid hN
  replace h0 := Lib.hid h0
  replace h1 := Lib.hid h1
  replace h2 := Lib.hid h2
  replace hlb := Lib.hid hlb
  replace hU := Lib.hid hU
  go_enter Tryz.func75, Tryz.ntmps75
  go_wp2_with (go_at_call 104; ((with_reducible refine hFd.mono ?_)); rintro en wa ⟨rfl, ht⟩)
  have c1 := cell_made #[fnv 169] 145 wa 0
  have s1 := size_alloc wa (.cells #[fnv 169] 145)
  have t1 := (Turn.refl (fun _ => False) wa).alloc (.cells #[fnv 169] 145)
  generalize hw1 : wa.alloc (.cells #[fnv 169] 145) = wb at c1 s1 t1 ⊢
  have o1 := fun i => cell_made #[.pointer none, .int .i64 0, .bool false] 115 wb i
  have f1 := fun i => frozen_made #[.pointer none, .int .i64 0, .bool false] 115 wb i
  have s2 := size_alloc wb (.cells #[.pointer none, .int .i64 0, .bool false] 115)
  have t2 := (Turn.refl (fun _ => False) wb).alloc (.cells #[.pointer none, .int .i64 0, .bool false] 115)
  generalize hw2 : wb.alloc (.cells #[.pointer none, .int .i64 0, .bool false] 115) = w1 at o1 f1 s2 t2 ⊢
  rw [s1] at o1 f1 s2
  have c1 := (t2.cell (p := ⟨wa.heap.size, 0, none⟩) (by show wa.heap.size < _; omega) id).trans c1
  have tw1 := (ht.trans' t1).trans' t2
  have hN1 := hN.out.still tw1
  have k0 := (tw1.cell (p := ⟨lb, 0, none⟩) hlb.out id).trans h0.out
  have k1 := (tw1.cell (p := ⟨lb, 1, none⟩) hlb.out id).trans h1.out
  have k2 := (tw1.cell (p := ⟨lb, 2, none⟩) hlb.out id).trans h2.out
  have hsw := ht.size
  have hlb1 : lb < wa.heap.size := Nat.lt_of_lt_of_le hlb.out hsw
  replace o1 := Lib.hid o1
  replace f1 := Lib.hid f1
  replace s2 := Lib.hid s2
  replace c1 := Lib.hid c1
  replace tw1 := Lib.hid tw1
  replace hN1 := Lib.hid hN1
  replace k0 := Lib.hid k0
  replace k1 := Lib.hid k1
  replace k2 := Lib.hid k2
  clear t1 t2 s1 ht hw1 hw2 hN h0 h1 h2 hmk hFd
  go_loopw [34] (fun vi wr => ∃ k : Nat, k ≤ 1 ∧ vi = .int .i64 k ∧ RR w1 (wa.heap.size + 1) U k wr) (fun vi _ => 1 - (intOf vi).toNat)
  case atStart => exact ⟨0, Nat.zero_le _, rfl, fun _ => rfl, fun h => absurd h (by omega), Turn.refl _ _⟩
  case round =>
    obtain ⟨k, hk, rfl, hrel⟩ := hrel
    by_cases hkn : k < 1
    · obtain rfl : k = 0 := by omega
      obtain rfl := hrel.zero rfl
      have q0 := k0.out
      have q1 := k1.out
      have q2 := k2.out
      clear hrel
      have m0 := cell_made #[.bool s, .slice a n c, .int .i64 E] 53 wr 0
      have m1 := cell_made #[.bool s, .slice a n c, .int .i64 E] 53 wr 1
      have m2 := cell_made #[.bool s, .slice a n c, .int .i64 E] 53 wr 2
      have s3 := size_alloc wr (.cells #[.bool s, .slice a n c, .int .i64 E] 53)
      have t3 := (Turn.refl (fun _ => False) wr).alloc (.cells #[.bool s, .slice a n c, .int .i64 E] 53)
      have hV := valid_k _ 1074 U _ (hN1.out.still t3)
      replace m0 := Lib.hid m0
      replace m1 := Lib.hid m1
      replace m2 := Lib.hid m2
      replace s3 := Lib.hid s3
      replace t3 := Lib.hid t3
      go_wp2_with (first
        | (go_at_call 84
           ((with_reducible refine hV.mono ?_))
           rintro en w4 ⟨rfl, ob, rfl⟩
           have t4 := (Turn.refl (fun _ => False) (wr.alloc (.cells #[.bool s, .slice a n c, .int .i64 E] 53))).alloc ob
           have t5 := t3.out.trans' t4
           have hl3 := s3.out
           have d0 := (t4.cell (p := ⟨wr.heap.size, 0, none⟩) (by show wr.heap.size < _; omega) id).trans m0.out
           have d1 := (t4.cell (p := ⟨wr.heap.size, 1, none⟩) (by show wr.heap.size < _; omega) id).trans m1.out
           have d2 := (t4.cell (p := ⟨wr.heap.size, 2, none⟩) (by show wr.heap.size < _; omega) id).trans m2.out
           obtain ⟨d, hDs, hk2, hlo, hval, hE2, hbl⟩ := (hN1.out.still t5).get
           have hO := ropen_any s a n c E d _ hDs hk2
           generalize (if s then -((dv d n : Nat) : Int) else ((dv d n : Nat) : Int)) = x at *
           replace t5 := Lib.hid t5
           replace hval := Lib.hid hval
           replace hbl := Lib.hid hbl
           replace hlo := Lib.hid hlo
           replace hE2 := Lib.hid hE2
           clear t4 hl3 hDs hk2 hV)
        | (go_at_call 105
           ((with_reducible refine hO.mono ?_))
           rintro en w5 ⟨q, oq, rfl, g1, g2, g3⟩
           have t6 := t5.out.trans' g3
           have e0 := (t6.cell (p := ⟨wa.heap.size + 1, 0, none⟩) (by have := s2.out; show wa.heap.size + 1 < wr.heap.size; omega) id).trans (o1.out 0)
           have e1 := (t6.cell (p := ⟨wa.heap.size + 1, 1, none⟩) (by have := s2.out; show wa.heap.size + 1 < wr.heap.size; omega) id).trans (o1.out 1)
           have e2 := (t6.cell (p := ⟨wa.heap.size + 1, 2, none⟩) (by have := s2.out; show wa.heap.size + 1 < wr.heap.size; omega) id).trans (o1.out 2)
           have e3 := (t6.frozen (p := ⟨wa.heap.size + 1, 0, none⟩) (by have := s2.out; show wa.heap.size + 1 < wr.heap.size; omega) id).trans (f1.out 0)
           have e4 := (t6.frozen (p := ⟨wa.heap.size + 1, 1, none⟩) (by have := s2.out; show wa.heap.size + 1 < wr.heap.size; omega) id).trans (f1.out 1)
           have e5 := (t6.frozen (p := ⟨wa.heap.size + 1, 2, none⟩) (by have := s2.out; show wa.heap.size + 1 < wr.heap.size; omega) id).trans (f1.out 2)
           obtain ⟨q0, q1, q2⟩ := set3 (.pointer (some ⟨q, 0, none⟩)) (.int .i64 E) (.bool false) e0 e1 e2
           have hP := put3 w5 (wa.heap.size + 1) (.pointer (some ⟨q, 0, none⟩)) (.int .i64 E) (.bool false)
           have hst : RR wr (wa.heap.size + 1) U 1 (((w5.setCell ⟨wa.heap.size + 1, 0, none⟩ (.pointer (some ⟨q, 0, none⟩))).setCell ⟨wa.heap.size + 1, 1, none⟩ (.int .i64 E)).setCell ⟨wa.heap.size + 1, 2, none⟩ (.bool false)) := by
             have hz := s2.out
             have hz2 := t5.out.size
             have hnew : ∀ j, IB q oq j → wa.heap.size + 1 < j := fun j hj => by have := g2 j hj; omega
             exact ⟨fun h => absurd h (by omega), fun _ => ⟨q, oq, x, E, ⟨q0, q1, q2⟩, g1.turn hP (fun j hj e => by have := hnew j hj; omega), hnew, hval.out, hlo.out, hE2.out, hbl.out⟩, (t6.mono (S' := fun j => j = wa.heap.size + 1) fun _ _ h => h.elim).trans' hP⟩
           replace hst := Lib.hid hst
           clear g1 g2 g3 t6 hP q0 q1 q2))
      all_goals go_roundw
      case rel => exact ⟨1, by omega, by go_num, hst.out⟩
      case measure => simp [intOf]
    · obtain rfl : k = 1 := by omega
      obtain ⟨q, oq, m, e, hn, hI, hj, hval, hlo, hE2, hbl⟩ := hrel.one (by omega)
      have tr := hrel.turn
      have hS := self_any (wa.heap.size + 1) q 1 e wr hn
      have c2 := (tr.cell (p := ⟨wa.heap.size, 0, none⟩) (by have := s2.out; show wa.heap.size < w1.heap.size; omega) (by show ¬ wa.heap.size = wa.heap.size + 1; omega)).trans c1.out
      have hT := tw1.out.trans tr fun j hj e => by omega
      replace hI := Lib.hid hI
      replace hT := Lib.hid hT
      clear hrel hn tr hj k0 k1 k2 hN1 c1
      have c2 := Lib.hid c2
      have hU2 := hU.out
      replace hval := Lib.hid hval
      go_wp2_with (first
        | (go_at_call 76
           ((with_reducible refine hS.mono ?_))
           rintro en w4 ⟨rfl, t4⟩
           have t5 := t4.trans' ((Turn.refl (fun _ => False) w4).alloc (.cells #[.pointer (some ⟨q, 0, none⟩), .int .i64 e, .bool false] 115))
           have c3 := (t5.cell (p := ⟨wa.heap.size, 0, none⟩) (World.block_lt_of_cell? _ _ c2.out) id).trans c2.out
           obtain ⟨r, x, hTo, hr1, hr2⟩ := near_to q oq m e U _ (hI.out.still t5) hbl hval.out hlo hE2 hU2
           have hT := Lib.hid (hT.out.trans' t5)
           replace hr1 := Lib.hid hr1
           replace hr2 := Lib.hid hr2
           clear t4 t5)
        | (go_at_call 77; ((with_reducible refine hTo.mono ?_)); rintro en w6 ⟨rfl, t6⟩
           have hT := Lib.hid (hT.out.trans' t6)))
      all_goals go_ret3
      · have h : (iw r == -9223372036854775808) = true := ‹_›
        have h : iw r = -9223372036854775808 := by simpa using h
        have h2 : r = 9223372036854775808 := iw_inj hr1.out.1 (by omega) (by rw [h]; rfl)
        have h3 := hr2.out
        rw [h2, nought_t.2.2.1] at h3
        exact ⟨0, x, rfl, nought_f.2.2.2, by rw [nought_f.2.2.1]; exact h3, hT.out⟩
      · exact ⟨r, x, rfl, hr1.out, hr2.out, hT.out⟩
set_option maxRecDepth 100000 in
theorem To_near (v : Value) (U : Int) (w : World) (hN : NumK w v 1074 U) (hU : U.natAbs < 2 ^ 2090) :
    Calls Tryz.prog 50 #[v, .int .i64 0] w fun en w' => ∃ r x, en = .returned (.tuple #[.int .i64 (iw r), .bool x, .int .i64 0]) ∧ Fin64 r ∧ fv r = rn U ∧ Turn (fun _ => False) w w' := by
  obtain ⟨s, a, n, c, E, rfl⟩ := hN.form
  have t1 := (Turn.refl (fun _ => False) w).alloc (.cells #[.bool s, .slice a n c, .int .i64 E] 53)
  have s1 := size_alloc w (.cells #[.bool s, .slice a n c, .int .i64 E] 53)
  generalize hw1 : w.alloc (.cells #[.bool s, .slice a n c, .int .i64 E] 53) = w1 at t1 s1
  have t2 := (Turn.refl (fun _ => False) w1).alloc (.cells #[.bool s, .slice a n c, .int .i64 E] 53)
  have m := fun i => cell_made #[.bool s, .slice a n c, .int .i64 E] 53 w1 i
  rw [s1] at m
  have hR := rounded_near (w.heap.size + 1) _ U s a n c E _ rfl (hN.still (t1.trans' t2)) (m 0) (m 1) (m 2) hU
  have hT := Lib.hid (t1.trans' t2)
  rw [← hw1] at hR hT
  clear hN t1 s1 t2 m hw1
  go_enter Tryz.func50, Tryz.ntmps50
  go_wp2_with (go_at_call 75; ((with_reducible refine hR.mono ?_)); rintro en w' ⟨r, x, rfl, h1, h2, h3⟩
               have h2 := Lib.hid h2)
  all_goals go_ret3
  exact ⟨r, x, rfl, h1, h2.out, hT.out.trans' h3⟩
end
section
open Go.RowKit
def NuRes (w : World) (K : Nat) (U : Int) (en : Ending) (w' : World) : Prop := ∃ q oq m e, en = .returned (.agg #[.pointer (some ⟨q, 0, none⟩), .int .i64 e, .bool false]) ∧ It w' q oq m ∧ New w q oq ∧ U = m * 2 ^ (e + K).toNat ∧ -(K : Int) ≤ e ∧ e ≤ 1048576 ∧ bl m.natAbs ≤ 60000 ∧ Turn (fun _ => False) w w'
set_option maxRecDepth 100000 in
theorem value_any (x : Nat) (w : World) (hx : Fin64 x) (hT : Tab w) : Calls Tryz.prog 120 #[.int .i64 (iw x)] w (NuRes w 1074 (fv x)) := by
  have t0 := (Turn.refl (fun _ => False) w).alloc (.cells #[.pointer none, .int .i64 0, .bool false] 115)
  have s0 := size_alloc w (.cells #[.pointer none, .int .i64 0, .bool false] 115)
  have o := fun i => cell_made #[.pointer none, .int .i64 0, .bool false] 115 w i
  have fz := fun i => frozen_made #[.pointer none, .int .i64 0, .bool false] 115 w i
  have hO := Of_any x _ hx (hT.still t0)
  replace t0 := Lib.hid t0
  replace s0 := Lib.hid s0
  replace o := Lib.hid o
  replace fz := Lib.hid fz
  clear hT
  go_enter Tryz.func120, Tryz.ntmps120
  go_wp2_with (first
    | (go_at_call 67
       ((with_reducible refine hO.mono ?_))
       rintro en wa ⟨v, rfl, h1, h2⟩
       obtain ⟨s, l, k, d, X, rfl⟩ := h1.form
       have t3 := (Turn.refl (fun _ => False) wa).alloc (.cells #[.bool s, .slice l k d, .int .i64 X] 53)
       obtain ⟨dd, hDs, hk2, hlo, hval, hE2, hbl⟩ := (h1.still t3).get
       have hP := ropen_any s l k d X dd _ hDs hk2
       generalize (if s then -((dv dd k : Nat) : Int) else ((dv dd k : Nat) : Int)) = z at *
       have t4 := Lib.hid (h2.trans' t3)
       replace hlo := Lib.hid hlo
       replace hval := Lib.hid hval
       replace hE2 := Lib.hid hE2
       replace hbl := Lib.hid hbl
       clear h1 h2 t3 hDs hk2 hO)
    | (go_at_call 105
       ((with_reducible refine hP.mono ?_))
       rintro en w5 ⟨q, oq, rfl, g1, g2, g3⟩
       have t6 := t4.out.trans' g3
       have hs := s0.out
       have e0 := (t6.cell (p := ⟨w.heap.size, 0, none⟩) (by show w.heap.size < _; omega) id).trans (o.out 0)
       have e1 := (t6.cell (p := ⟨w.heap.size, 1, none⟩) (by show w.heap.size < _; omega) id).trans (o.out 1)
       have e2 := (t6.cell (p := ⟨w.heap.size, 2, none⟩) (by show w.heap.size < _; omega) id).trans (o.out 2)
       have e3 := (t6.frozen (p := ⟨w.heap.size, 0, none⟩) (by show w.heap.size < _; omega) id).trans (fz.out 0)
       have e4 := (t6.frozen (p := ⟨w.heap.size, 1, none⟩) (by show w.heap.size < _; omega) id).trans (fz.out 1)
       have e5 := (t6.frozen (p := ⟨w.heap.size, 2, none⟩) (by show w.heap.size < _; omega) id).trans (fz.out 2)
       obtain ⟨q0, q1, q2⟩ := set3 (.pointer (some ⟨q, 0, none⟩)) (.int .i64 X) (.bool false) e0 e1 e2
       have hP3 := put3 w5 w.heap.size (.pointer (some ⟨q, 0, none⟩)) (.int .i64 X) (.bool false)
       have hfin : NuRes w 1074 (fv x) (.returned (.agg #[.pointer (some ⟨q, 0, none⟩), .int .i64 X, .bool false])) (((w5.setCell ⟨w.heap.size, 0, none⟩ (.pointer (some ⟨q, 0, none⟩))).setCell ⟨w.heap.size, 1, none⟩ (.int .i64 X)).setCell ⟨w.heap.size, 2, none⟩ (.bool false)) := by
         have hz := t4.out.size
         have hnew : ∀ j, IB q oq j → w.heap.size < j := fun j hj => by have := g2 j hj; omega
         exact ⟨q, oq, z, X, rfl, g1.turn hP3 (fun j hj e => by have := hnew j hj; omega), fun j hj => by have := hnew j hj; omega, hval.out, hlo.out, hE2.out, hbl.out, (t0.out.trans' t6).trans hP3 fun j hj e => by omega⟩
       replace hfin := Lib.hid hfin
       clear hs g1 g2 g3 t6 hP3))
  refine bodyPost_ret (v := .agg #[.pointer (some ⟨q, 0, none⟩), .int .i64 X, .bool false]) (by simp [results, Tryz.results120, go_sem, q0, q1, q2]) rfl ?_
  exact hfin.out
def FnR (w : World) (n : Nat) (x : Nat → Nat) (en : Ending) (w' : World) : Prop := (∃ v, en = .returned (.bool v) ∧ (v = true ↔ ∀ i, i < n → Fin64 (x i))) ∧ w = w'
set_option maxRecDepth 100000 in
theorem rfinite_any (b n c : Nat) (x : Nat → Nat) (w : World) (hn : n ≤ 1000) (h : ∀ i, i < n → w.cell? ⟨b, i, none⟩ = some (.int .i64 (iw (x i))) ∧ x i < 18446744073709551616) :
    Calls Tryz.prog 116 #[.slice (some ⟨b, 0, none⟩) n c] w (FnR w n x) := by
  replace h := Lib.hid h
  go_enter Tryz.func116, Tryz.ntmps116
  go_wp2_with fail
  go_loop [7] (fun vi => ∃ k : Nat, k ≤ n ∧ vi = .int .i64 k ∧ ∀ i, i < k → Fin64 (x i)) (fun vi => n - (intOf vi).toNat)
  case atStart => exact ⟨0, Nat.zero_le _, rfl, fun i hi => absurd hi (Nat.not_lt_zero _)⟩
  case round =>
    obtain ⟨k, hk, rfl, hf⟩ := hrel
    replace hf := Lib.hid hf
    by_cases hkn : k < n
    · obtain ⟨c0, l0⟩ := h.out k hkn
      have hC := Class_any (x k) w l0
      have hn1 : (0 : Int) ≤ (k : Int) := by omega
      have hn2 : (k : Int) < n := by omega
      by_cases hfx : Fin64 (x k)
      · have hc3 : ¬ 3 ≤ cls (x k) := by have := cls_fin hfx; omega
        have hf2 : ∀ i, i < k + 1 → Fin64 (x i) := fun i hi => by
          rcases (by omega : i < k ∨ i = k) with g | rfl
          · exact hf.out i g
          · exact hfx
        replace hf2 := Lib.hid hf2
        generalize cls (x k) = cc at *
        clear hfx
        go_wp2_with (go_at_call 60; ((with_reducible refine hC.mono ?_)); rintro e w' ⟨rfl, rfl⟩)
        all_goals go_round
        case rel => exact ⟨k + 1, by omega, by go_num, hf2.out⟩
        case measure => simp [intOf]; omega
      · have hc3 : 3 ≤ cls (x k) := by
          rcases (show 3 ≤ cls (x k) ∨ cls (x k) < 3 by omega) with g | g
          · exact g
          · exact absurd (fin_cls l0 g) hfx
        have hd := Lib.hid (show (false = true ↔ ∀ i, i < n → Fin64 (x i)) from ⟨fun g => Bool.noConfusion g, fun g => absurd (g k hkn) hfx⟩)
        generalize cls (x k) = cc at *
        clear hfx
        go_wp2_with (go_at_call 60; ((with_reducible refine hC.mono ?_)); rintro e w' ⟨rfl, rfl⟩)
        all_goals go_ret
        exact ⟨⟨_, rfl, hd.out⟩, rfl⟩
    · obtain rfl : k = n := by omega
      go_wp2_with fail
      go_ret
      exact ⟨⟨_, rfl, ⟨fun _ => hf.out, fun _ => rfl⟩⟩, rfl⟩
end
section
open Go.RowKit
structure QX (w wx : World) (p q : Nat) (e f : Int) : Prop where
  x0 : wx.cell? ⟨w.heap.size, 0, none⟩ = some (.pointer (some ⟨p, 0, none⟩))
  x1 : wx.cell? ⟨w.heap.size, 1, none⟩ = some (.int .i64 e)
  y0 : wx.cell? ⟨w.heap.size + 1, 0, none⟩ = some (.pointer (some ⟨q, 0, none⟩))
  y1 : wx.cell? ⟨w.heap.size + 1, 1, none⟩ = some (.int .i64 f)
  r0 : wx.cell? ⟨w.heap.size + 1 + 1, 0, none⟩ = some (.pointer none)
  r1 : wx.cell? ⟨w.heap.size + 1 + 1, 1, none⟩ = some (.int .i64 0)
  r2 : wx.cell? ⟨w.heap.size + 1 + 1, 2, none⟩ = some (.bool false)
  fz : ∀ i, wx.frozen? ⟨w.heap.size + 1 + 1, i, none⟩ = false
  turn : Turn (fun _ => False) w wx
  sz : w.heap.size + 1 + 1 < wx.heap.size
theorem QX.more {w wx wy : World} {p q : Nat} {e f : Int} (h : QX w wx p q e f) {S : Nat → Prop} (t : Turn S wx wy) (hS : ∀ k, S k → w.heap.size + 1 + 1 < k) : QX w wy p q e f := by
  have hl := h.sz
  have n0 : ¬ S w.heap.size := fun g => by have := hS _ g; omega
  have n1 : ¬ S (w.heap.size + 1) := fun g => by have := hS _ g; omega
  have n2 : ¬ S (w.heap.size + 1 + 1) := fun g => by have := hS _ g; omega
  have l0 : w.heap.size < wx.heap.size := by omega
  have l1 : w.heap.size + 1 < wx.heap.size := by omega
  exact ⟨(t.cell (p := ⟨w.heap.size, 0, none⟩) l0 n0).trans h.x0, (t.cell (p := ⟨w.heap.size, 1, none⟩) l0 n0).trans h.x1,
    (t.cell (p := ⟨w.heap.size + 1, 0, none⟩) l1 n1).trans h.y0, (t.cell (p := ⟨w.heap.size + 1, 1, none⟩) l1 n1).trans h.y1,
    (t.cell (p := ⟨w.heap.size + 1 + 1, 0, none⟩) hl n2).trans h.r0, (t.cell (p := ⟨w.heap.size + 1 + 1, 1, none⟩) hl n2).trans h.r1, (t.cell (p := ⟨w.heap.size + 1 + 1, 2, none⟩) hl n2).trans h.r2,
    fun i => (t.frozen (p := ⟨w.heap.size + 1 + 1, i, none⟩) hl n2).trans (h.fz i),
    h.turn.trans t fun k hk g => by (have := hS k g; omega), Nat.lt_of_lt_of_le hl t.size⟩
theorem QX.still {w wx wy : World} {p q : Nat} {e f : Int} (h : QX w wx p q e f) (t : Turn (fun _ => False) wx wy) : QX w wy p q e f := h.more t fun _ g => g.elim
theorem QX.made (w : World) (p q : Nat) (e f : Int) : QX w (((w.alloc (.cells #[.pointer (some ⟨p, 0, none⟩), .int .i64 e, .bool false] 115)).alloc (.cells #[.pointer (some ⟨q, 0, none⟩), .int .i64 f, .bool false] 115)).alloc (.cells #[.pointer none, .int .i64 0, .bool false] 115)) p q e f ∧
    (((w.alloc (.cells #[.pointer (some ⟨p, 0, none⟩), .int .i64 e, .bool false] 115)).alloc (.cells #[.pointer (some ⟨q, 0, none⟩), .int .i64 f, .bool false] 115)).alloc (.cells #[.pointer none, .int .i64 0, .bool false] 115)).heap.size = w.heap.size + 1 + 1 + 1 := by
  have c1 := fun i => cell_made #[.pointer (some ⟨p, 0, none⟩), .int .i64 e, .bool false] 115 w i
  have s1 := size_alloc w (.cells #[.pointer (some ⟨p, 0, none⟩), .int .i64 e, .bool false] 115)
  have t1 := (Turn.refl (fun _ => False) w).alloc (.cells #[.pointer (some ⟨p, 0, none⟩), .int .i64 e, .bool false] 115)
  generalize w.alloc (.cells #[.pointer (some ⟨p, 0, none⟩), .int .i64 e, .bool false] 115) = w1 at *
  have c2 := fun i => cell_made #[.pointer (some ⟨q, 0, none⟩), .int .i64 f, .bool false] 115 w1 i
  have s2 := size_alloc w1 (.cells #[.pointer (some ⟨q, 0, none⟩), .int .i64 f, .bool false] 115)
  have t2 := (Turn.refl (fun _ => False) w1).alloc (.cells #[.pointer (some ⟨q, 0, none⟩), .int .i64 f, .bool false] 115)
  generalize w1.alloc (.cells #[.pointer (some ⟨q, 0, none⟩), .int .i64 f, .bool false] 115) = w2 at *
  have c3 := fun i => cell_made #[.pointer none, .int .i64 0, .bool false] 115 w2 i
  have g3 := fun i => frozen_made #[.pointer none, .int .i64 0, .bool false] 115 w2 i
  have s3 := size_alloc w2 (.cells #[.pointer none, .int .i64 0, .bool false] 115)
  have t3 := (Turn.refl (fun _ => False) w2).alloc (.cells #[.pointer none, .int .i64 0, .bool false] 115)
  generalize w2.alloc (.cells #[.pointer none, .int .i64 0, .bool false] 115) = w3 at *
  rw [s1] at c2 s2
  rw [s2] at c3 g3 s3
  have l1 : w.heap.size < w1.heap.size := by omega
  have l2 : w.heap.size < w2.heap.size := by omega
  have l3 : w.heap.size + 1 < w2.heap.size := by omega
  refine ⟨⟨?_, ?_, ?_, ?_, c3 0, c3 1, c3 2, g3, (t1.trans' t2).trans' t3, by omega⟩, s3⟩
  · exact (t3.cell (p := ⟨w.heap.size, 0, none⟩) l2 id).trans ((t2.cell (p := ⟨w.heap.size, 0, none⟩) l1 id).trans (c1 0))
  · exact (t3.cell (p := ⟨w.heap.size, 1, none⟩) l2 id).trans ((t2.cell (p := ⟨w.heap.size, 1, none⟩) l1 id).trans (c1 1))
  · exact (t3.cell (p := ⟨w.heap.size + 1, 0, none⟩) l3 id).trans (c2 0)
  · exact (t3.cell (p := ⟨w.heap.size + 1, 1, none⟩) l3 id).trans (c2 1)
theorem QX.done {w wa : World} {p q z : Nat} {e f E M : Int} {o : Option (Nat × Nat)} (h : QX w wa p q e f) (hI : It wa z o M) (hN : ∀ k, IB z o k → w.heap.size + 1 + 1 < k) :
    let wz := ((wa.setCell ⟨w.heap.size + 1 + 1, 0, none⟩ (.pointer (some ⟨z, 0, none⟩))).setCell ⟨w.heap.size + 1 + 1, 1, none⟩ (.int .i64 E)).setCell ⟨w.heap.size + 1 + 1, 2, none⟩ (.bool false)
    (wz.cell? ⟨w.heap.size + 1 + 1, 0, none⟩ = some (.pointer (some ⟨z, 0, none⟩)) ∧ wz.cell? ⟨w.heap.size + 1 + 1, 1, none⟩ = some (.int .i64 E) ∧ wz.cell? ⟨w.heap.size + 1 + 1, 2, none⟩ = some (.bool false)) ∧ It wz z o M ∧ New w z o ∧ Turn (fun _ => False) w wz := by
  intro wz
  have hP := put3 wa (w.heap.size + 1 + 1) (.pointer (some ⟨z, 0, none⟩)) (.int .i64 E) (.bool false)
  exact ⟨set3 _ _ _ h.r0 h.r1 h.r2, hI.turn hP fun k hk g => by have := hN k hk; omega, fun k hk => by have := hN k hk; omega, h.turn.trans hP fun k hk g => by omega⟩
set_option maxRecDepth 100000 in
set_option maxHeartbeats 4000000 in
theorem rplus_any (p q : Nat) (op oq : Option (Nat × Nat)) (m n e f E : Int) (w : World) (hI : It w p op m) (hJ : It w q oq n) (hE : E = min e f) (he : -10000 ≤ e ∧ e ≤ 1048576) (hf : -10000 ≤ f ∧ f ≤ 1048576)
    (hb1 : bl m.natAbs ≤ 60000) (hb2 : bl n.natAbs ≤ 60000) (hc1 : bl (m * 2 ^ (e - E).toNat).natAbs ≤ 6000000) (hc2 : bl (n * 2 ^ (f - E).toNat).natAbs ≤ 6000000) :
    Calls Tryz.prog 119 #[.agg #[.pointer (some ⟨p, 0, none⟩), .int .i64 e, .bool false], .agg #[.pointer (some ⟨q, 0, none⟩), .int .i64 f, .bool false]] w (NbRes w (m * 2 ^ (e - E).toNat + n * 2 ^ (f - E).toNat) E) := by
  obtain ⟨F, hs⟩ := QX.made w p q e f
  have hE1 : E ≤ e := by omega
  have hE2 : E ≤ f := by omega
  have hE3 : -10000 ≤ E := by omega
  have hmin : min e f = E := hE.symm
  have a1 : IntKind.i64.wrap (e - E) = e - E := IntWalk.i64_in _ (by omega)
  have a2 : IntKind.u64.wrap (e - E) = ((e - E).toNat : Int) := by rw [IntKind.wrap_u64]; omega
  have a3 : IntKind.i64.wrap (f - E) = f - E := IntWalk.i64_in _ (by omega)
  have a4 : IntKind.u64.wrap (f - E) = ((f - E).toNat : Int) := by rw [IntKind.wrap_u64]; omega
  have hS1 : (e - E).toNat ≤ 6000000 := by omega
  have hS2 : (f - E).toNat ≤ 6000000 := by omega
  generalize (e - E).toNat = s1 at *
  generalize (f - E).toNat = s2 at *
  have hlp : ∀ k, IB p op k → k < w.heap.size := fun k hk => hI.lt hk
  have hlq : ∀ k, IB q oq k → k < w.heap.size := fun k hk => hJ.lt hk
  replace hI := Lib.hid hI
  replace hJ := Lib.hid hJ
  replace hE := Lib.hid hE
  replace hlp := Lib.hid hlp
  replace hlq := Lib.hid hlq
  clear he hf hE1 hE2 hE3
  go_enter Tryz.func119, Tryz.ntmps119
  go_wp2_with fail
  generalize World.alloc (World.alloc (World.alloc w _) _) _ = w3 at F hs ⊢
  have t4 := (Turn.refl (fun _ => False) w3).alloc (.cells #[.bool false, .slice none 0 0] 128)
  have F4 := F.still t4
  have i0 := It.made w3
  rw [hs] at i0
  have s4 := size_alloc w3 (.cells #[.bool false, .slice none 0 0] 128)
  generalize w3.alloc (.cells #[.bool false, .slice none 0 0] 128) = w4 at t4 F4 i0 s4 ⊢
  have hA1 := Lsh_any (w.heap.size + 1 + 1 + 1) none 0 p op m s1 w4 i0 (hI.out.still F4.turn) (.inr fun k hk g => by
    have := hlp.out k g
    rcases hk with e | ⟨c, e⟩
    · omega
    · cases e) (by omega) hS1 (fun _ => rfl)
  have b0 := F4.y0
  have b1 := F4.y1
  have hs4 : w4.heap.size = w.heap.size + 1 + 1 + 1 + 1 := by omega
  replace F4 := Lib.hid F4
  replace hs4 := Lib.hid hs4
  clear F t4 i0 s4 hs
  go_wp2_with (first
    | (go_at_call 124
       ((with_reducible refine hA1.mono ?_))
       rintro en wa ⟨rfl, o1, h1, h2, h3⟩
       have hz : ∀ k, IB (w.heap.size + 1 + 1 + 1) none k → w.heap.size + 1 + 1 < k := fun k hk => by
         rcases hk with e | ⟨c, e⟩
         · omega
         · cases e
       have F5 := F4.out.more h3 hz
       have hn1 : ∀ k, IB (w.heap.size + 1 + 1 + 1) o1 k → w.heap.size + 1 + 1 < k ∧ k < wa.heap.size := fun k hk => ⟨by
         rcases hk with e | ⟨c, e⟩
         · omega
         · rcases h2 k c e with ⟨d, g⟩ | g
           · cases g
           · have := hs4.out; omega, h1.lt hk⟩
       have t6 := (Turn.refl (fun _ => False) wa).alloc (.cells #[.bool false, .slice none 0 0] 128)
       have F6 := F5.still t6
       have i6 := It.made wa
       have b0 := F6.y0
       have b1 := F6.y1
       have hsz6 := F5.sz
       have hA2 := Lsh_any wa.heap.size none 0 q oq n s2 _ i6 (hJ.out.still F6.turn) (.inr fun k hk g => by
         have := hlq.out k g
         rcases hk with e | ⟨c, e⟩
         · omega
         · cases e) (by omega) hS2 (fun _ => rfl)
       have j1 := h1.still t6
       have s6 := size_alloc wa (.cells #[.bool false, .slice none 0 0] 128)
       replace F6 := Lib.hid F6
       replace hn1 := Lib.hid hn1
       replace j1 := Lib.hid j1
       replace s6 := Lib.hid s6
       clear h1 h2 h3 hz F5 t6 i6 hA1)
    | (go_at_call 124
       ((with_reducible refine hA2.mono ?_))
       rintro en wb ⟨rfl, o2, h1, h2, h3⟩
       have hz : ∀ k, IB wa.heap.size none k → k = wa.heap.size := fun k hk => by
         rcases hk with e | ⟨c, e⟩
         · exact e
         · cases e
       have F7 := F6.out.more h3 fun k hk => by have := hz k hk; omega
       have j2 := j1.out.turn h3 fun k hk g => by have := hz k g; have := (hn1.out k hk).2; omega
       have hA3 := Add_any (w.heap.size + 1 + 1 + 1) o1 _ (w.heap.size + 1 + 1 + 1) o1 _ wa.heap.size o2 _ wb j2 j2 h1 hc1 hc2
       have hsz7 := h3.size
       replace F7 := Lib.hid F7
       clear h1 h2 h3 hz j2 hA2)
    | (go_at_call 134
       ((with_reducible refine hA3.mono ?_))
       rintro en wc ⟨rfl, o3, h1, h2, h3⟩
       have F8 := F7.out.more h3 fun k hk => (hn1.out k hk).1
       have hn3 : ∀ k, IB (w.heap.size + 1 + 1 + 1) o3 k → w.heap.size + 1 + 1 < k := fun k hk => by
         rcases hk with e | ⟨c, e⟩
         · omega
         · rcases h2 k c e with ⟨d, g⟩ | g
           · exact (hn1.out k (.inr ⟨d, g⟩)).1
           · have := s6.out; omega
       have r0 := F8.r0
       have r1 := F8.r1
       have r2 := F8.r2
       have f0 := F8.fz 0
       have f1 := F8.fz 1
       have f2 := F8.fz 2
       obtain ⟨⟨q0, q1, q2⟩, d1, d2, d3⟩ := F8.done (E := E) h1 hn3
       have hfin := Lib.hid (show NbRes w _ E (.returned (.agg #[.pointer (some ⟨w.heap.size + 1 + 1 + 1, 0, none⟩), .int .i64 E, .bool false])) _ from ⟨_, o3, rfl, d1, d2, d3⟩)
       clear h1 h2 h3 F8 hn3 d1 d2 d3 hA3))
  refine bodyPost_ret (v := .agg #[.pointer (some ⟨w.heap.size + 1 + 1 + 1, 0, none⟩), .int .i64 E, .bool false]) (by simp [results, Tryz.results119, go_sem, q0, q1, q2]) rfl ?_
  exact hfin.out
end
section
open Go.RowKit
theorem QX.drewN {w wx : World} {p q : Nat} {e f : Int} (h : QX w wx p q e f) (n : Nat) : QX w (wx.drewN n) p q e f := ⟨h.x0, h.x1, h.y0, h.y1, h.r0, h.r1, h.r2, h.fz, h.turn.drewN n, h.sz⟩
theorem cell_thr {wa : World} {b : Nat} {v0 v1 v2 v : Value} {p : Addr} (h : p.block ≠ b) (hc : wa.cell? p = some v) : (((wa.setCell ⟨b, 0, none⟩ v0).setCell ⟨b, 1, none⟩ v1).setCell ⟨b, 2, none⟩ v2).cell? p = some v :=
  (((((Turn.refl (fun k => k = b) wa).setCell (p := ⟨b, 0, none⟩) (fun _ => rfl) v0).setCell (p := ⟨b, 1, none⟩) (fun _ => rfl) v1).setCell (p := ⟨b, 2, none⟩) (fun _ => rfl) v2).cell (World.block_lt_of_cell? wa _ hc) h).trans hc
set_option maxRecDepth 100000 in
set_option maxHeartbeats 4000000 in
theorem rtimes_any (p q : Nat) (op oq : Option (Nat × Nat)) (m n e f : Int) (w : World) (hI : It w p op m) (hJ : It w q oq n) (hpq : p ≠ q) (h40 : bl m.natAbs ≤ 2496 ∨ bl n.natAbs ≤ 2496) (hbm : bl m.natAbs ≤ 6000000) (hbn : bl n.natAbs ≤ 6000000) (hk : w.cell? ⟨5, 0, none⟩ = some (.int .i64 40)) (he : -100000000 ≤ e ∧ e ≤ 100000000) (hf : -100000000 ≤ f ∧ f ≤ 100000000) :
    Calls Tryz.prog 122 #[.agg #[.pointer (some ⟨p, 0, none⟩), .int .i64 e, .bool false], .agg #[.pointer (some ⟨q, 0, none⟩), .int .i64 f, .bool false]] w (NbRes w (m * n) (e + f)) := by
  have hw : IntKind.i64.wrap (e + f) = e + f := IntWalk.i64_in _ (by omega)
  have hA : ∀ W z, Turn (fun _ => False) w W → It W z none 0 → w.heap.size ≤ z → Calls Tryz.prog 135 #[.pointer (some ⟨z, 0, none⟩), .pointer (some ⟨p, 0, none⟩), .pointer (some ⟨q, 0, none⟩)] W (IRes W z none (m * n)) := fun W z t h hz =>
    Mul_new z p op m q oq n W h (hI.still t) (hJ.still t) (by have := hI.pl.lt; omega) (by have := hJ.pl.lt; omega) hpq h40 hbm hbn ((t.cell (p := ⟨5, 0, none⟩) (World.block_lt_of_cell? w _ hk) id).trans hk)
  clear hI hJ h40 hbm hbn hk hpq he hf
  go_enter Tryz.func122, Tryz.ntmps122
  go_wp2_with fail
  obtain ⟨F, hs⟩ := QX.made w p q e f
  generalize World.alloc (World.alloc (World.alloc w _) _) _ = w3 at F hs ⊢
  have F1 := F.drewN 1
  have F2 := F.more (((Turn.refl (fun _ => False) w3).alloc (.cells #[.bool false, .slice none 0 0] 128)).drew) (fun _ g => g.elim)
  have hz := (It.made w3).drew
  have hs2 : w3.heap.size = w.heap.size + 1 + 1 + 1 := hs
  have a0 : w3.drew.cell? _ = _ := F1.x0
  have a1 : w3.drew.cell? _ = _ := F1.x1
  have a2 : w3.drew.cell? _ = _ := F1.y0
  have a3 : w3.drew.cell? _ = _ := F1.y1
  have b0 := F2.x0
  have b1 := F2.x1
  have b2 := F2.y0
  have b3 := F2.y1
  have hB := hA _ _ F2.turn hz (by omega)
  rw [hs2] at hB
  have hsW : (w3.alloc (.cells #[.bool false, .slice none 0 0] 128)).drew.heap.size = w.heap.size + 1 + 1 + 1 + 1 := by have := size_alloc w3 (.cells #[.bool false, .slice none 0 0] 128); show (w3.alloc _).heap.size = _; omega
  replace F2 := Lib.hid F2
  replace hsW := Lib.hid hsW
  clear F F1 hz hA
  go_region_held3 (fun wx => wx.cell? ⟨w.heap.size, 0, none⟩ = some (.pointer (some ⟨p, 0, none⟩)) ∧ wx.cell? ⟨w.heap.size, 1, none⟩ = some (.int .i64 e) ∧ wx.cell? ⟨w.heap.size + 1, 0, none⟩ = some (.pointer (some ⟨q, 0, none⟩)) ∧ wx.cell? ⟨w.heap.size + 1, 1, none⟩ = some (.int .i64 f))
    (first | (refine ⟨?_, ?_, ?_, ?_⟩ <;> with_reducible assumption) | (refine ⟨?_, ?_, ?_, ?_⟩ <;> (with_reducible refine cell_thr ?_ (by assumption); dsimp only; omega)))
    (first | (go_at_call 135; ((with_reducible refine hB.mono ?_)); rintro en wa ⟨rfl, o, h1, h2, h3⟩
              have G := F2.out.more h3 (fun k g => by (have := IB_none g; omega))
              have hn3 : ∀ k, IB (w.heap.size + 1 + 1 + 1) o k → w.heap.size + 1 + 1 < k := fun k hk => by
                rcases hk with e | ⟨c, e⟩
                · omega
                · rcases h2 k c e with ⟨d, g⟩ | g
                  · cases g
                  · have := hsW.out; omega
              have c0 := G.x0
              have c1 := G.x1
              have c2 := G.y0
              have c3 := G.y1
              have r0 := G.r0
              have r1 := G.r1
              have r2 := G.r2
              have f0 := G.fz 0
              have f1 := G.fz 1
              have f2 := G.fz 2
              have hdn := Lib.hid (G.done (E := e + f) h1 hn3)
              clear G h1 h2 h3 hn3))
  rename_i hh
  clear hh
  obtain ⟨⟨q0, q1, q2⟩, d1, d2, d3⟩ := hdn.out
  have hfin := Lib.hid (show NbRes w _ (e + f) (.returned (.agg #[.pointer (some ⟨w.heap.size + 1 + 1 + 1, 0, none⟩), .int .i64 (e + f), .bool false])) _ from ⟨_, o, rfl, d1, d2, d3⟩)
  clear d1 d2 d3 hdn
  go_wp2_with fail
  refine bodyPost_ret (v := .agg #[.pointer (some ⟨w.heap.size + 1 + 1 + 1, 0, none⟩), .int .i64 (e + f), .bool false]) (by simp [results, Tryz.results122, go_sem, q0, q1, q2]) rfl ?_
  exact hfin.out
end
end Go.Proofs.YtllapbkoildfiaaGreatFmt
