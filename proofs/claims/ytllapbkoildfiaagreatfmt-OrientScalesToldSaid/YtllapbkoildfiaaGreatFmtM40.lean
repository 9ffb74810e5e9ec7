/- round: the exact sum and product of two words, as the closures of Add and Mul tell them · round: settle. -/
import Derived.Test.YtllapbkoildfiaaGreatFmtM39
import Derived.Test.YtllapbkoildfiaaGreatFmtM31
set_option linter.all false
set_option exponentiation.threshold 100000
namespace Go.Proofs.YtllapbkoildfiaaGreatFmt
section
open Go.RowKit
theorem fv_lt2 {x : Nat} (h : Fin64 x) : (fv x).natAbs < 2 ^ 2098 := fv_bound h
theorem nu_hi {U m e : Int} {K N : Nat} (hval : U = m * 2 ^ (e + K).toNat) (hU : U.natAbs < 2 ^ N) : bl m.natAbs ≤ N := by
  by_cases hm : m = 0
  · subst hm; exact Nat.zero_le _
  · refine bl_le (Nat.lt_of_le_of_lt ?_ hU)
    rw [hval, abs_pow]
    exact Nat.le_mul_of_pos_right _ (Nat.two_pow_pos _)
theorem NbRes.nu {w w' : World} {m e U : Int} {K : Nat} {en : Ending} (h : NbRes w m e en w') (hU : U = m * 2 ^ (e + K).toNat) (h1 : -(K : Int) ≤ e) (h2 : e ≤ 1048576) (h3 : bl m.natAbs ≤ 60000) : NuRes w K U en w' := by
  obtain ⟨q, oq, g1, g2, g3, g4⟩ := h
  exact ⟨q, oq, m, e, g1, g2, g3, hU, h1, h2, h3, g4⟩
theorem plus_parts {U V m n e f : Int} {K : Nat} (h1 : U = m * 2 ^ (e + K).toNat) (h2 : V = n * 2 ^ (f + K).toNat) (h3 : -(K : Int) ≤ e) (h4 : -(K : Int) ≤ f) :
    U + V = (m * 2 ^ (e - min e f).toNat + n * 2 ^ (f - min e f).toNat) * 2 ^ (min e f + K).toNat := by
  rw [Int.add_mul, Int.mul_assoc, Int.mul_assoc, ← Int.pow_add, ← Int.pow_add, h1, h2]
  congr 3 <;> omega
theorem times_parts {U V m n e f : Int} {K : Nat} (h1 : U = m * 2 ^ (e + K).toNat) (h2 : V = n * 2 ^ (f + K).toNat) (h3 : -(K : Int) ≤ e) (h4 : -(K : Int) ≤ f) :
    U * V = (m * n) * 2 ^ (e + f + (K + K : Nat)).toNat := by
  rw [h1, h2]
  have e1 : (e + f + (K + K : Nat)).toNat = (e + K).toNat + (f + K).toNat := by omega
  rw [e1, Int.pow_add]
  generalize (2 : Int) ^ (e + K).toNat = a
  generalize (2 : Int) ^ (f + K).toNat = b
  ac_rfl
theorem abs_sum {U V : Int} {N : Nat} (h1 : U.natAbs < 2 ^ N) (h2 : V.natAbs < 2 ^ N) : (U + V).natAbs < 2 ^ (N + 1) := by
  rw [Nat.pow_succ]
  generalize 2 ^ N = W at *
  omega
theorem shift_bl {U m e E : Int} {K N : Nat} (h1 : U = m * 2 ^ (e + K).toNat) (hE : E ≤ e) (hK : -(K : Int) ≤ E) (hU : U.natAbs < 2 ^ N) : bl (m * 2 ^ (e - E).toNat).natAbs ≤ N := by
  refine nu_hi (U := U) (e := E) (K := K) ?_ hU
  rw [Int.mul_assoc, ← Int.pow_add, h1]
  congr 2
  omega
set_option maxRecDepth 100000 in
set_option maxHeartbeats 4000000 in
theorem c118_any (pa pb x y : Nat) (w : World) (hx : Fin64 x) (hy : Fin64 y) (ha : w.cell? ⟨pa, 0, none⟩ = some (.int .i64 (iw x))) (hb : w.cell? ⟨pb, 0, none⟩ = some (.int .i64 (iw y))) (hT : Tab w) :
    Calls Tryz.prog 118 #[.pointer (some ⟨pa, 0, none⟩), .pointer (some ⟨pb, 0, none⟩)] w (NuRes w 1074 (fv x + fv y)) := by
  have t0 := ((Turn.refl (fun _ => False) w).alloc (.cells #[.pointer none, .int .i64 0, .bool false] 115)).drew
  have s0 := size_alloc w (.cells #[.pointer none, .int .i64 0, .bool false] 115)
  have o := fun i => cell_made #[.pointer none, .int .i64 0, .bool false] 115 w i
  have fz := fun i => frozen_made #[.pointer none, .int .i64 0, .bool false] 115 w i
  have hpa := World.block_lt_of_cell? w _ ha
  have hpb := World.block_lt_of_cell? w _ hb
  have a0 := (t0.cell (p := ⟨pa, 0, none⟩) hpa id).trans ha
  have b0 := (t0.cell (p := ⟨pb, 0, none⟩) hpb id).trans hb
  have hV1 := value_any x _ hx (hT.still t0)
  have hpa2 : pa ≠ w.heap.size := Nat.ne_of_lt hpa
  have hpb2 : pb ≠ w.heap.size := Nat.ne_of_lt hpb
  replace t0 := Lib.hid t0
  replace s0 := Lib.hid s0
  replace o := Lib.hid o
  replace fz := Lib.hid fz
  replace hT := Lib.hid hT
  have hxx := Lib.hid hx
  have hyy := Lib.hid hy
  replace ha := Lib.hid ha
  replace hb := Lib.hid hb
  clear hx hy
  go_enter Tryz.func118, Tryz.ntmps118
  go_wp2_with fail
  go_region_held3 (fun wx => wx.cell? ⟨pa, 0, none⟩ = some (.int .i64 (iw x)) ∧ wx.cell? ⟨pb, 0, none⟩ = some (.int .i64 (iw y)))
    (first | (refine ⟨?_, ?_⟩ <;> with_reducible assumption) | (refine ⟨?_, ?_⟩ <;> (with_reducible refine cell_thr ?_ (by assumption); dsimp only; omega)))
    (first
      | (go_at_call 120; ((with_reducible refine hV1.mono ?_)); rintro en wa ⟨q, oq, m, e, rfl, g1, g2, g3, g4, g5, g6, g7⟩
         have ta := t0.out.trans' g7
         have a1 := (ta.cell (p := ⟨pa, 0, none⟩) hpa id).trans ha.out
         have b1 := (ta.cell (p := ⟨pb, 0, none⟩) hpb id).trans hb.out
         have hV2 := value_any y wa hyy.out (hT.out.still ta)
         have g2 : ∀ j, IB q oq j → w.heap.size < j ∧ j < wa.heap.size := fun j hj => ⟨by
           have h9 := s0.out
           have h8 : (w.alloc (.cells #[.pointer none, .int .i64 0, .bool false] 115)).heap.size ≤ j := g2 j hj
           omega, g1.lt hj⟩
         have ua := Lib.hid g7
         replace ta := Lib.hid ta
         replace g1 := Lib.hid g1
         replace g2 := Lib.hid g2
         replace g3 := Lib.hid g3
         replace g4 := Lib.hid g4
         replace g5 := Lib.hid g5
         replace g6 := Lib.hid g6
         clear g7 hV1)
      | (go_at_call 120; ((with_reducible refine hV2.mono ?_)); rintro en wb ⟨q', oq', n, f, rfl, k1, k2, k3, k4, k5, k6, k7⟩
         have tb := ta.out.trans' k7
         have a2 := (tb.cell (p := ⟨pa, 0, none⟩) hpa id).trans ha.out
         have b2 := (tb.cell (p := ⟨pb, 0, none⟩) hpb id).trans hb.out
         have hux := fv_lt2 hxx.out
         have huy := fv_lt2 hyy.out
         have hE1 : min e f ≤ e := Int.min_le_left _ _
         have hE2 : min e f ≤ f := Int.min_le_right _ _
         have hE3 : -1074 ≤ min e f := by have := g4.out; omega
         have hA := rplus_any q q' oq oq' m n e f (min e f) wb (g1.out.still k7) k1 rfl (by have := g4.out; have := g5.out; omega) (by omega) g6.out k6 (Nat.le_trans (shift_bl g3.out hE1 (by omega) hux) (by omega)) (Nat.le_trans (shift_bl k3 hE2 (by omega) huy) (by omega))
         have hpp := plus_parts g3.out k3 g4.out k4
         have hval : ∀ en w', NbRes wb (m * 2 ^ (e - min e f).toNat + n * 2 ^ (f - min e f).toNat) (min e f) en w' → NuRes wb 1074 (fv x + fv y) en w' := fun en w' h => h.nu hpp (by omega) (by omega) (Nat.le_trans (nu_hi hpp (abs_sum hux huy)) (by omega))
         have hab := Lib.hid k7.size
         have k2 : ∀ j, IB q' oq' j → w.heap.size < j := fun j hj => by have h8 := k2 j hj; have h9 := ta.out.size; have := World.block_lt_of_cell? wa _ a1; have h10 := (g2.out q (.inl rfl)); omega
         have ub := Lib.hid (ua.out.trans' k7)
         replace tb := Lib.hid tb
         replace hval := Lib.hid hval
         clear k1 k2 k3 k4 k5 k6 k7 hux huy hV2)
      | (go_at_call 119; ((with_reducible refine hA.mono ?_)); rintro en wc hres
         obtain ⟨z, oz, M, E, rfl, j1, j2, j3, j4, j5, j6, j7⟩ := hval.out _ _ hres
         have tc := tb.out.trans' j7
         have a3 := (tc.cell (p := ⟨pa, 0, none⟩) hpa id).trans ha.out
         have b3 := (tc.cell (p := ⟨pb, 0, none⟩) hpb id).trans hb.out
         have t1 := ub.out.trans' j7
         have hl : w.heap.size < (w.alloc (.cells #[.pointer none, .int .i64 0, .bool false] 115)).drew.heap.size := by have := s0.out; show _ < (w.alloc _).heap.size; omega
         have e0 := (t1.cell (p := ⟨w.heap.size, 0, none⟩) hl id).trans (o.out 0)
         have e1 := (t1.cell (p := ⟨w.heap.size, 1, none⟩) hl id).trans (o.out 1)
         have e2 := (t1.cell (p := ⟨w.heap.size, 2, none⟩) hl id).trans (o.out 2)
         have e3 := (t1.frozen (p := ⟨w.heap.size, 0, none⟩) hl id).trans (fz.out 0)
         have e4 := (t1.frozen (p := ⟨w.heap.size, 1, none⟩) hl id).trans (fz.out 1)
         have e5 := (t1.frozen (p := ⟨w.heap.size, 2, none⟩) hl id).trans (fz.out 2)
         have hset := Lib.hid (set3 (.pointer (some ⟨z, 0, none⟩)) (.int .i64 E) (.bool false) e0 e1 e2)
         have hP3 := put3 wc w.heap.size (.pointer (some ⟨z, 0, none⟩)) (.int .i64 E) (.bool false)
         have hfin : NuRes w 1074 (fv x + fv y) (.returned (.agg #[.pointer (some ⟨z, 0, none⟩), .int .i64 E, .bool false])) (((wc.setCell ⟨w.heap.size, 0, none⟩ (.pointer (some ⟨z, 0, none⟩))).setCell ⟨w.heap.size, 1, none⟩ (.int .i64 E)).setCell ⟨w.heap.size, 2, none⟩ (.bool false)) := by
           have hz := tb.out.size
           have hq := (g2.out q (.inl rfl))
           have hnew : ∀ j, IB z oz j → w.heap.size < j := fun j hj => by have h8 := j2 j hj; have h9 := hl; have := t1.size; have h10 : wa.heap.size ≤ wb.heap.size := hab.out; omega
           exact ⟨z, oz, M, E, rfl, j1.turn hP3 (fun j hj e => by have := hnew j hj; omega), fun j hj => by have := hnew j hj; omega, j3, j4, j5, j6, tc.trans hP3 fun j hj e => by omega⟩
         replace hfin := Lib.hid hfin
         clear hres j1 j2 j3 j4 j5 j6 j7 t1 hP3 tc))
  rename_i hh
  clear hh
  obtain ⟨q0, q1, q2⟩ := hset.out
  go_wp2_with fail
  refine bodyPost_ret (v := .agg #[.pointer (some ⟨z, 0, none⟩), .int .i64 E, .bool false]) (by simp [results, Tryz.results118, go_sem, q0, q1, q2]) rfl ?_
  exact hfin.out
set_option maxRecDepth 100000 in
set_option maxHeartbeats 4000000 in
theorem c121_any (pa pb x y : Nat) (w : World) (hx : Fin64 x) (hy : Fin64 y) (ha : w.cell? ⟨pa, 0, none⟩ = some (.int .i64 (iw x))) (hb : w.cell? ⟨pb, 0, none⟩ = some (.int .i64 (iw y))) (hT : Tab w) (hK : Kar w) (hx0 : fv x ≠ 0) (hy0 : fv y ≠ 0) :
    Calls Tryz.prog 121 #[.pointer (some ⟨pa, 0, none⟩), .pointer (some ⟨pb, 0, none⟩)] w (NuRes w 2148 (fv x * fv y)) := by
  have t0 := ((Turn.refl (fun _ => False) w).alloc (.cells #[.pointer none, .int .i64 0, .bool false] 115)).drew
  have s0 := size_alloc w (.cells #[.pointer none, .int .i64 0, .bool false] 115)
  have o := fun i => cell_made #[.pointer none, .int .i64 0, .bool false] 115 w i
  have fz := fun i => frozen_made #[.pointer none, .int .i64 0, .bool false] 115 w i
  have hpa := World.block_lt_of_cell? w _ ha
  have hpb := World.block_lt_of_cell? w _ hb
  have a0 := (t0.cell (p := ⟨pa, 0, none⟩) hpa id).trans ha
  have b0 := (t0.cell (p := ⟨pb, 0, none⟩) hpb id).trans hb
  have hV1 := value_any x _ hx (hT.still t0)
  have hpa2 : pa ≠ w.heap.size := Nat.ne_of_lt hpa
  have hpb2 : pb ≠ w.heap.size := Nat.ne_of_lt hpb
  replace t0 := Lib.hid t0
  replace s0 := Lib.hid s0
  replace o := Lib.hid o
  replace fz := Lib.hid fz
  replace hT := Lib.hid hT
  replace hK := Lib.hid hK
  replace hx0 := Lib.hid hx0
  replace hy0 := Lib.hid hy0
  have hxx := Lib.hid hx
  have hyy := Lib.hid hy
  replace ha := Lib.hid ha
  replace hb := Lib.hid hb
  clear hx hy
  go_enter Tryz.func121, Tryz.ntmps121
  go_wp2_with fail
  go_region_held3 (fun wx => wx.cell? ⟨pa, 0, none⟩ = some (.int .i64 (iw x)) ∧ wx.cell? ⟨pb, 0, none⟩ = some (.int .i64 (iw y)))
    (first | (refine ⟨?_, ?_⟩ <;> with_reducible assumption) | (refine ⟨?_, ?_⟩ <;> (with_reducible refine cell_thr ?_ (by assumption); dsimp only; omega)))
    (first
      | (go_at_call 120; ((with_reducible refine hV1.mono ?_)); rintro en wa ⟨q, oq, m, e, rfl, g1, g2, g3, g4, g5, g6, g7⟩
         have ta := t0.out.trans' g7
         have a1 := (ta.cell (p := ⟨pa, 0, none⟩) hpa id).trans ha.out
         have b1 := (ta.cell (p := ⟨pb, 0, none⟩) hpb id).trans hb.out
         have hV2 := value_any y wa hyy.out (hT.out.still ta)
         have g2 : ∀ j, IB q oq j → w.heap.size < j ∧ j < wa.heap.size := fun j hj => ⟨by
           have h9 := s0.out
           have h8 : (w.alloc (.cells #[.pointer none, .int .i64 0, .bool false] 115)).heap.size ≤ j := g2 j hj
           omega, g1.lt hj⟩
         have ua := Lib.hid g7
         replace ta := Lib.hid ta
         replace g1 := Lib.hid g1
         replace g2 := Lib.hid g2
         replace g3 := Lib.hid g3
         replace g4 := Lib.hid g4
         replace g5 := Lib.hid g5
         replace g6 := Lib.hid g6
         clear g7 hV1)
      | (go_at_call 120; ((with_reducible refine hV2.mono ?_)); rintro en wb ⟨q', oq', n, f, rfl, k1, k2, k3, k4, k5, k6, k7⟩
         have tb := ta.out.trans' k7
         have a2 := (tb.cell (p := ⟨pa, 0, none⟩) hpa id).trans ha.out
         have b2 := (tb.cell (p := ⟨pb, 0, none⟩) hpb id).trans hb.out
         have hux := fv_lt2 hxx.out
         have huy := fv_lt2 hyy.out
         have hm0 : m ≠ 0 := fun h => hx0.out (by rw [g3.out, h, Int.zero_mul])
         have hn0 : n ≠ 0 := fun h => hy0.out (by rw [k3, h, Int.zero_mul])
         have hee1 := exp_hi (K := 1074) hm0 g3.out hux
         have hee2 := exp_hi (K := 1074) hn0 k3 huy
         have hA := rtimes_any q q' oq oq' m n e f wb (g1.out.still k7) k1 (fun h => by have h8 := (g2.out q (.inl rfl)).2; have h9 := k2 q' (.inl rfl); omega) (.inl (Nat.le_trans (nu_hi g3.out hux) (by omega))) (by have := g6.out; omega) (by omega) (hK.out.still tb) (by have := g4.out; have := g5.out; omega) (by omega)
         have hpp := times_parts g3.out k3 g4.out k4
         have hbl : bl (m * n).natAbs ≤ 60000 := by
           refine Nat.le_trans (bl_le (k := 2098 + 2098) ?_) (by omega)
           rw [Int.natAbs_mul, Nat.pow_add]
           have h1 := Nat.lt_of_lt_of_le bl_lt (Nat.pow_le_pow_right (by omega) (nu_hi g3.out hux))
           have h2 := Nat.lt_of_lt_of_le bl_lt (Nat.pow_le_pow_right (by omega) (nu_hi k3 huy))
           exact Nat.mul_lt_mul'' h1 h2
         have hval : ∀ en w', NbRes wb (m * n) (e + f) en w' → NuRes wb 2148 (fv x * fv y) en w' := fun en w' h => h.nu hpp (by have := g4.out; omega) (by omega) hbl
         have hab := Lib.hid k7.size
         have k2 : ∀ j, IB q' oq' j → w.heap.size < j := fun j hj => by have h8 := k2 j hj; have h9 := ta.out.size; have := World.block_lt_of_cell? wa _ a1; have h10 := (g2.out q (.inl rfl)); omega
         have ub := Lib.hid (ua.out.trans' k7)
         replace tb := Lib.hid tb
         replace hval := Lib.hid hval
         clear k1 k2 k3 k4 k5 k6 k7 hux huy hV2)
      | (go_at_call 122; ((with_reducible refine hA.mono ?_)); rintro en wc hres
         obtain ⟨z, oz, M, E, rfl, j1, j2, j3, j4, j5, j6, j7⟩ := hval.out _ _ hres
         have tc := tb.out.trans' j7
         have a3 := (tc.cell (p := ⟨pa, 0, none⟩) hpa id).trans ha.out
         have b3 := (tc.cell (p := ⟨pb, 0, none⟩) hpb id).trans hb.out
         have t1 := ub.out.trans' j7
         have hl : w.heap.size < (w.alloc (.cells #[.pointer none, .int .i64 0, .bool false] 115)).drew.heap.size := by have := s0.out; show _ < (w.alloc _).heap.size; omega
         have e0 := (t1.cell (p := ⟨w.heap.size, 0, none⟩) hl id).trans (o.out 0)
         have e1 := (t1.cell (p := ⟨w.heap.size, 1, none⟩) hl id).trans (o.out 1)
         have e2 := (t1.cell (p := ⟨w.heap.size, 2, none⟩) hl id).trans (o.out 2)
         have e3 := (t1.frozen (p := ⟨w.heap.size, 0, none⟩) hl id).trans (fz.out 0)
         have e4 := (t1.frozen (p := ⟨w.heap.size, 1, none⟩) hl id).trans (fz.out 1)
         have e5 := (t1.frozen (p := ⟨w.heap.size, 2, none⟩) hl id).trans (fz.out 2)
         have hset := Lib.hid (set3 (.pointer (some ⟨z, 0, none⟩)) (.int .i64 E) (.bool false) e0 e1 e2)
         have hP3 := put3 wc w.heap.size (.pointer (some ⟨z, 0, none⟩)) (.int .i64 E) (.bool false)
         have hfin : NuRes w 2148 (fv x * fv y) (.returned (.agg #[.pointer (some ⟨z, 0, none⟩), .int .i64 E, .bool false])) (((wc.setCell ⟨w.heap.size, 0, none⟩ (.pointer (some ⟨z, 0, none⟩))).setCell ⟨w.heap.size, 1, none⟩ (.int .i64 E)).setCell ⟨w.heap.size, 2, none⟩ (.bool false)) := by
           have hz := tb.out.size
           have hq := (g2.out q (.inl rfl))
           have hnew : ∀ j, IB z oz j → w.heap.size < j := fun j hj => by have h8 := j2 j hj; have h9 := hl; have := t1.size; have h10 : wa.heap.size ≤ wb.heap.size := hab.out; omega
           exact ⟨z, oz, M, E, rfl, j1.turn hP3 (fun j hj e => by have := hnew j hj; omega), fun j hj => by have := hnew j hj; omega, j3, j4, j5, j6, tc.trans hP3 fun j hj e => by omega⟩
         replace hfin := Lib.hid hfin
         clear hres j1 j2 j3 j4 j5 j6 j7 t1 hP3 tc))
  rename_i hh
  clear hh
  obtain ⟨q0, q1, q2⟩ := hset.out
  go_wp2_with fail
  refine bodyPost_ret (v := .agg #[.pointer (some ⟨z, 0, none⟩), .int .i64 E, .bool false]) (by simp [results, Tryz.results121, go_sem, q0, q1, q2]) rfl ?_
  exact hfin.out
end
section
open Go.RowKit
def OpR (w : World) (b : Int) (en : Ending) (w' : World) : Prop := en = .returned (.tuple #[.int .i64 b, .int .i64 0]) ∧ Turn (fun _ => False) w w'
theorem sgn0 : sgn 0 = 0 := rfl
theorem sgn_ne {x : Int} (h : x ≠ 0) : sgn x ≠ 0 := by unfold sgn; split <;> (try split) <;> omega
set_option maxRecDepth 100000 in
theorem settle_no_1 (nat : Int) (f : Value) (w : World) : Calls Tryz.prog 117 #[.int .i64 1, .int .i64 nat, .bool false, f] w (OpR w nat) := by
  have hFd : Calls Tryz.prog 104 #[.int .i64 1] w fun e w' => e = .returned (.tuple #[.agg #[fnv 167], .bool true]) ∧ Turn (fun _ => False) w w' := find_any 1 (by omega) w
  go_enter Tryz.func117, Tryz.ntmps117
  go_wp2_with (go_at_call 104; ((with_reducible refine hFd.mono ?_)); rintro en wa ⟨rfl, ht⟩)
  go_ret2
  exact ⟨rfl, ht.alloc _⟩
set_option maxRecDepth 100000 in
theorem settle_no_2 (nat : Int) (f : Value) (w : World) : Calls Tryz.prog 117 #[.int .i64 2, .int .i64 nat, .bool false, f] w (OpR w nat) := by
  have hFd : Calls Tryz.prog 104 #[.int .i64 2] w fun e w' => e = .returned (.tuple #[.agg #[fnv 168], .bool true]) ∧ Turn (fun _ => False) w w' := find_any 2 (by omega) w
  go_enter Tryz.func117, Tryz.ntmps117
  go_wp2_with (go_at_call 104; ((with_reducible refine hFd.mono ?_)); rintro en wa ⟨rfl, ht⟩)
  go_ret2
  exact ⟨rfl, ht.alloc _⟩
set_option maxRecDepth 100000 in
set_option maxHeartbeats 2000000 in
theorem settle_118_1_0 (nat : Int) (pa pb : Nat) (U : Int) (w : World) (hC : ∀ W, Turn (fun _ => False) w W → Calls Tryz.prog 118 #[.pointer (some ⟨pa, 0, none⟩), .pointer (some ⟨pb, 0, none⟩)] W (NuRes W 1074 U)) (hU : U.natAbs < 2 ^ 4196) (h0 : U = 0) :
    Calls Tryz.prog 117 #[.int .i64 1, .int .i64 nat, .bool true, .func (.func 118) #[] #[.pointer (some ⟨pa, 0, none⟩), .pointer (some ⟨pb, 0, none⟩)]] w (OpR w nat) := by
  have hFd : Calls Tryz.prog 104 #[.int .i64 1] w fun e w' => e = .returned (.tuple #[.agg #[fnv 167], .bool true]) ∧ Turn (fun _ => False) w w' := find_any 1 (by omega) w
  replace hC := Lib.hid hC
  replace hU := Lib.hid hU
  replace h0 := Lib.hid h0
  go_enter Tryz.func117, Tryz.ntmps117
  go_wp2_with (first
    | (go_at_call 104
       ((with_reducible refine hFd.mono ?_))
       rintro en wa ⟨rfl, ht⟩
       have t1 := ht.alloc (.cells #[fnv 167] 145)
       have c1 := cell_made #[fnv 167] 145 wa 0
       have s1 := size_alloc wa (.cells #[fnv 167] 145)
       have hCC := hC.out _ t1
       replace t1 := Lib.hid t1
       replace c1 := Lib.hid c1
       replace s1 := Lib.hid s1
       clear ht hFd)
    | (go_at_call 118
       ((with_reducible refine hCC.mono ?_))
       rintro en wb ⟨q, oq, m, e, rfl, g1, g2, g3, g4, g5, g6, g7⟩
       have t2 := (Turn.refl (fun _ => False) wb).alloc (.cells #[.pointer (some ⟨q, 0, none⟩), .int .i64 e, .bool false] 115)
       have t3 := t1.out.trans' (g7.trans' t2)
       have c2 := ((g7.trans' t2).cell (p := ⟨wa.heap.size, 0, none⟩) (by have := s1.out; show wa.heap.size < _; omega) id).trans c1.out
       have hm : m = 0 := by
         rcases Int.mul_eq_zero.1 (g3.symm.trans h0.out) with h | h
         · exact h
         · have := pow_pos2 (e + (1074 : Nat)).toNat; omega
       have hS := Sign_any q oq m _ (g1.still t2)
       rw [hm, sgn0] at hS
       replace t3 := Lib.hid t3
       clear g1 g2 g3 g4 g5 g6 g7 t2 hCC)
    | (go_at_call 64; ((with_reducible refine hS.mono ?_)); rintro en wc ⟨rfl, rfl⟩))
  go_ret2
  exact ⟨rfl, t3.out⟩
set_option maxRecDepth 100000 in
set_option maxHeartbeats 2000000 in
theorem settle_118_1_1 (nat : Int) (pa pb : Nat) (U : Int) (w : World) (b : Int) (R : Nat) (hb : b = iw R) (hR : R = dn (fw U.natAbs 0 (decide (U < 0))) (fa U.natAbs 0 (decide (U < 0))) (decide (U < 0))) (hC : ∀ W, Turn (fun _ => False) w W → Calls Tryz.prog 118 #[.pointer (some ⟨pa, 0, none⟩), .pointer (some ⟨pb, 0, none⟩)] W (NuRes W 1074 U)) (hU : U.natAbs < 2 ^ 4196) (h0 : U ≠ 0) :
    Calls Tryz.prog 117 #[.int .i64 1, .int .i64 nat, .bool true, .func (.func 118) #[] #[.pointer (some ⟨pa, 0, none⟩), .pointer (some ⟨pb, 0, none⟩)]] w (OpR w b) := by
  have hFd : Calls Tryz.prog 104 #[.int .i64 1] w fun e w' => e = .returned (.tuple #[.agg #[fnv 167], .bool true]) ∧ Turn (fun _ => False) w w' := find_any 1 (by omega) w
  replace hC := Lib.hid hC
  replace hU := Lib.hid hU
  subst hb
  replace hR := Lib.hid hR
  replace h0 := Lib.hid h0
  go_enter Tryz.func117, Tryz.ntmps117
  go_wp2_with (first
    | (go_at_call 104
       ((with_reducible refine hFd.mono ?_))
       rintro en wa ⟨rfl, ht⟩
       have t1 := ht.alloc (.cells #[fnv 167] 145)
       have c1 := cell_made #[fnv 167] 145 wa 0
       have s1 := size_alloc wa (.cells #[fnv 167] 145)
       have hCC := hC.out _ t1
       replace t1 := Lib.hid t1
       replace c1 := Lib.hid c1
       replace s1 := Lib.hid s1
       clear ht hFd)
    | (go_at_call 118
       ((with_reducible refine hCC.mono ?_))
       rintro en wb ⟨q, oq, m, e, rfl, g1, g2, g3, g4, g5, g6, g7⟩
       have t2 := (Turn.refl (fun _ => False) wb).alloc (.cells #[.pointer (some ⟨q, 0, none⟩), .int .i64 e, .bool false] 115)
       have t3 := t1.out.trans' (g7.trans' t2)
       have c2 := ((g7.trans' t2).cell (p := ⟨wa.heap.size, 0, none⟩) (by have := s1.out; show wa.heap.size < _; omega) id).trans c1.out
       have hm : m ≠ 0 := fun h => h0.out (by rw [g3, h, Int.zero_mul])
       have hS := Sign_any q oq m _ (g1.still t2)
       have hx := exp_hi hm g3 hU.out
       have hx2 : -30000 ≤ e ∧ e ≤ 30000 := by omega
       obtain ⟨x, hTo⟩ := to_way 167 _ (.inl rfl) way_down q oq m e 0 _ (g1.still t2) hm g6 hx2 (by omega)
       have hA : m.natAbs * 2 ^ (e + 1074 + (0 : Nat)).toNat = U.natAbs := by rw [g3, abs_pow]; congr 2; congr 1; omega
       have hsg := @sign_pow m (e + (1074 : Nat)).toNat
       rw [← g3] at hsg
       rw [tw_down, hA, hsg, ← hR.out] at hTo
       have hs0 : (sgn m == 0) = false := beq_eq_false_iff_ne.2 (sgn_ne hm)
       have hs1 : ¬ sgn m = 0 := sgn_ne hm
       generalize sgn m = sm at *
       replace t3 := Lib.hid t3
       clear g1 g2 g3 g4 g5 g6 g7 t2 hCC)
    | (go_at_call 64; ((with_reducible refine hS.mono ?_)); rintro en wc ⟨rfl, rfl⟩)
    | (go_at_call 77; ((with_reducible refine hTo.mono ?_)); rintro en wd' ⟨rfl, t4⟩
       have t5 := Lib.hid (t3.out.trans' t4)))
  go_ret2
  exact ⟨rfl, t5.out⟩
set_option maxRecDepth 100000 in
set_option maxHeartbeats 2000000 in
theorem settle_118_2_0 (nat : Int) (pa pb : Nat) (U : Int) (w : World) (hC : ∀ W, Turn (fun _ => False) w W → Calls Tryz.prog 118 #[.pointer (some ⟨pa, 0, none⟩), .pointer (some ⟨pb, 0, none⟩)] W (NuRes W 1074 U)) (hU : U.natAbs < 2 ^ 4196) (h0 : U = 0) :
    Calls Tryz.prog 117 #[.int .i64 2, .int .i64 nat, .bool true, .func (.func 118) #[] #[.pointer (some ⟨pa, 0, none⟩), .pointer (some ⟨pb, 0, none⟩)]] w (OpR w nat) := by
  have hFd : Calls Tryz.prog 104 #[.int .i64 2] w fun e w' => e = .returned (.tuple #[.agg #[fnv 168], .bool true]) ∧ Turn (fun _ => False) w w' := find_any 2 (by omega) w
  replace hC := Lib.hid hC
  replace hU := Lib.hid hU
  replace h0 := Lib.hid h0
  go_enter Tryz.func117, Tryz.ntmps117
  go_wp2_with (first
    | (go_at_call 104
       ((with_reducible refine hFd.mono ?_))
       rintro en wa ⟨rfl, ht⟩
       have t1 := ht.alloc (.cells #[fnv 168] 145)
       have c1 := cell_made #[fnv 168] 145 wa 0
       have s1 := size_alloc wa (.cells #[fnv 168] 145)
       have hCC := hC.out _ t1
       replace t1 := Lib.hid t1
       replace c1 := Lib.hid c1
       replace s1 := Lib.hid s1
       clear ht hFd)
    | (go_at_call 118
       ((with_reducible refine hCC.mono ?_))
       rintro en wb ⟨q, oq, m, e, rfl, g1, g2, g3, g4, g5, g6, g7⟩
       have t2 := (Turn.refl (fun _ => False) wb).alloc (.cells #[.pointer (some ⟨q, 0, none⟩), .int .i64 e, .bool false] 115)
       have t3 := t1.out.trans' (g7.trans' t2)
       have c2 := ((g7.trans' t2).cell (p := ⟨wa.heap.size, 0, none⟩) (by have := s1.out; show wa.heap.size < _; omega) id).trans c1.out
       have hm : m = 0 := by
         rcases Int.mul_eq_zero.1 (g3.symm.trans h0.out) with h | h
         · exact h
         · have := pow_pos2 (e + (1074 : Nat)).toNat; omega
       have hS := Sign_any q oq m _ (g1.still t2)
       rw [hm, sgn0] at hS
       replace t3 := Lib.hid t3
       clear g1 g2 g3 g4 g5 g6 g7 t2 hCC)
    | (go_at_call 64; ((with_reducible refine hS.mono ?_)); rintro en wc ⟨rfl, rfl⟩))
  go_ret2
  exact ⟨rfl, t3.out⟩
set_option maxRecDepth 100000 in
set_option maxHeartbeats 2000000 in
theorem settle_118_2_1 (nat : Int) (pa pb : Nat) (U : Int) (w : World) (b : Int) (R : Nat) (hb : b = iw R) (hR : R = uw (fw U.natAbs 0 (decide (U < 0))) (fa U.natAbs 0 (decide (U < 0))) (decide (U < 0))) (hC : ∀ W, Turn (fun _ => False) w W → Calls Tryz.prog 118 #[.pointer (some ⟨pa, 0, none⟩), .pointer (some ⟨pb, 0, none⟩)] W (NuRes W 1074 U)) (hU : U.natAbs < 2 ^ 4196) (h0 : U ≠ 0) :
    Calls Tryz.prog 117 #[.int .i64 2, .int .i64 nat, .bool true, .func (.func 118) #[] #[.pointer (some ⟨pa, 0, none⟩), .pointer (some ⟨pb, 0, none⟩)]] w (OpR w b) := by
  have hFd : Calls Tryz.prog 104 #[.int .i64 2] w fun e w' => e = .returned (.tuple #[.agg #[fnv 168], .bool true]) ∧ Turn (fun _ => False) w w' := find_any 2 (by omega) w
  replace hC := Lib.hid hC
  replace hU := Lib.hid hU
  subst hb
  replace hR := Lib.hid hR
  replace h0 := Lib.hid h0
  go_enter Tryz.func117, Tryz.ntmps117
  go_wp2_with (first
    | (go_at_call 104
       ((with_reducible refine hFd.mono ?_))
       rintro en wa ⟨rfl, ht⟩
       have t1 := ht.alloc (.cells #[fnv 168] 145)
       have c1 := cell_made #[fnv 168] 145 wa 0
       have s1 := size_alloc wa (.cells #[fnv 168] 145)
       have hCC := hC.out _ t1
       replace t1 := Lib.hid t1
       replace c1 := Lib.hid c1
       replace s1 := Lib.hid s1
       clear ht hFd)
    | (go_at_call 118
       ((with_reducible refine hCC.mono ?_))
       rintro en wb ⟨q, oq, m, e, rfl, g1, g2, g3, g4, g5, g6, g7⟩
       have t2 := (Turn.refl (fun _ => False) wb).alloc (.cells #[.pointer (some ⟨q, 0, none⟩), .int .i64 e, .bool false] 115)
       have t3 := t1.out.trans' (g7.trans' t2)
       have c2 := ((g7.trans' t2).cell (p := ⟨wa.heap.size, 0, none⟩) (by have := s1.out; show wa.heap.size < _; omega) id).trans c1.out
       have hm : m ≠ 0 := fun h => h0.out (by rw [g3, h, Int.zero_mul])
       have hS := Sign_any q oq m _ (g1.still t2)
       have hx := exp_hi hm g3 hU.out
       have hx2 : -30000 ≤ e ∧ e ≤ 30000 := by omega
       obtain ⟨x, hTo⟩ := to_way 168 _ (.inr (.inl rfl)) way_up q oq m e 0 _ (g1.still t2) hm g6 hx2 (by omega)
       have hA : m.natAbs * 2 ^ (e + 1074 + (0 : Nat)).toNat = U.natAbs := by rw [g3, abs_pow]; congr 2; congr 1; omega
       have hsg := @sign_pow m (e + (1074 : Nat)).toNat
       rw [← g3] at hsg
       rw [tw_up, hA, hsg, ← hR.out] at hTo
       have hs0 : (sgn m == 0) = false := beq_eq_false_iff_ne.2 (sgn_ne hm)
       have hs1 : ¬ sgn m = 0 := sgn_ne hm
       generalize sgn m = sm at *
       replace t3 := Lib.hid t3
       clear g1 g2 g3 g4 g5 g6 g7 t2 hCC)
    | (go_at_call 64; ((with_reducible refine hS.mono ?_)); rintro en wc ⟨rfl, rfl⟩)
    | (go_at_call 77; ((with_reducible refine hTo.mono ?_)); rintro en wd' ⟨rfl, t4⟩
       have t5 := Lib.hid (t3.out.trans' t4)))
  go_ret2
  exact ⟨rfl, t5.out⟩
set_option maxRecDepth 100000 in
set_option maxHeartbeats 2000000 in
theorem settle_121_1_0 (nat : Int) (pa pb : Nat) (U : Int) (w : World) (hC : ∀ W, Turn (fun _ => False) w W → Calls Tryz.prog 121 #[.pointer (some ⟨pa, 0, none⟩), .pointer (some ⟨pb, 0, none⟩)] W (NuRes W 2148 U)) (hU : U.natAbs < 2 ^ 4196) (h0 : U = 0) :
    Calls Tryz.prog 117 #[.int .i64 1, .int .i64 nat, .bool true, .func (.func 121) #[] #[.pointer (some ⟨pa, 0, none⟩), .pointer (some ⟨pb, 0, none⟩)]] w (OpR w nat) := by
  have hFd : Calls Tryz.prog 104 #[.int .i64 1] w fun e w' => e = .returned (.tuple #[.agg #[fnv 167], .bool true]) ∧ Turn (fun _ => False) w w' := find_any 1 (by omega) w
  replace hC := Lib.hid hC
  replace hU := Lib.hid hU
  replace h0 := Lib.hid h0
  go_enter Tryz.func117, Tryz.ntmps117
  go_wp2_with (first
    | (go_at_call 104
       ((with_reducible refine hFd.mono ?_))
       rintro en wa ⟨rfl, ht⟩
       have t1 := ht.alloc (.cells #[fnv 167] 145)
       have c1 := cell_made #[fnv 167] 145 wa 0
       have s1 := size_alloc wa (.cells #[fnv 167] 145)
       have hCC := hC.out _ t1
       replace t1 := Lib.hid t1
       replace c1 := Lib.hid c1
       replace s1 := Lib.hid s1
       clear ht hFd)
    | (go_at_call 121
       ((with_reducible refine hCC.mono ?_))
       rintro en wb ⟨q, oq, m, e, rfl, g1, g2, g3, g4, g5, g6, g7⟩
       have t2 := (Turn.refl (fun _ => False) wb).alloc (.cells #[.pointer (some ⟨q, 0, none⟩), .int .i64 e, .bool false] 115)
       have t3 := t1.out.trans' (g7.trans' t2)
       have c2 := ((g7.trans' t2).cell (p := ⟨wa.heap.size, 0, none⟩) (by have := s1.out; show wa.heap.size < _; omega) id).trans c1.out
       have hm : m = 0 := by
         rcases Int.mul_eq_zero.1 (g3.symm.trans h0.out) with h | h
         · exact h
         · have := pow_pos2 (e + (2148 : Nat)).toNat; omega
       have hS := Sign_any q oq m _ (g1.still t2)
       rw [hm, sgn0] at hS
       replace t3 := Lib.hid t3
       clear g1 g2 g3 g4 g5 g6 g7 t2 hCC)
    | (go_at_call 64; ((with_reducible refine hS.mono ?_)); rintro en wc ⟨rfl, rfl⟩))
  go_ret2
  exact ⟨rfl, t3.out⟩
set_option maxRecDepth 100000 in
set_option maxHeartbeats 2000000 in
theorem settle_121_1_1 (nat : Int) (pa pb : Nat) (U : Int) (w : World) (b : Int) (R : Nat) (hb : b = iw R) (hR : R = dn (fw U.natAbs 1074 (decide (U < 0))) (fa U.natAbs 1074 (decide (U < 0))) (decide (U < 0))) (hC : ∀ W, Turn (fun _ => False) w W → Calls Tryz.prog 121 #[.pointer (some ⟨pa, 0, none⟩), .pointer (some ⟨pb, 0, none⟩)] W (NuRes W 2148 U)) (hU : U.natAbs < 2 ^ 4196) (h0 : U ≠ 0) :
    Calls Tryz.prog 117 #[.int .i64 1, .int .i64 nat, .bool true, .func (.func 121) #[] #[.pointer (some ⟨pa, 0, none⟩), .pointer (some ⟨pb, 0, none⟩)]] w (OpR w b) := by
  have hFd : Calls Tryz.prog 104 #[.int .i64 1] w fun e w' => e = .returned (.tuple #[.agg #[fnv 167], .bool true]) ∧ Turn (fun _ => False) w w' := find_any 1 (by omega) w
  replace hC := Lib.hid hC
  replace hU := Lib.hid hU
  subst hb
  replace hR := Lib.hid hR
  replace h0 := Lib.hid h0
  go_enter Tryz.func117, Tryz.ntmps117
  go_wp2_with (first
    | (go_at_call 104
       ((with_reducible refine hFd.mono ?_))
       rintro en wa ⟨rfl, ht⟩
       have t1 := ht.alloc (.cells #[fnv 167] 145)
       have c1 := cell_made #[fnv 167] 145 wa 0
       have s1 := size_alloc wa (.cells #[fnv 167] 145)
       have hCC := hC.out _ t1
       replace t1 := Lib.hid t1
       replace c1 := Lib.hid c1
       replace s1 := Lib.hid s1
       clear ht hFd)
    | (go_at_call 121
       ((with_reducible refine hCC.mono ?_))
       rintro en wb ⟨q, oq, m, e, rfl, g1, g2, g3, g4, g5, g6, g7⟩
       have t2 := (Turn.refl (fun _ => False) wb).alloc (.cells #[.pointer (some ⟨q, 0, none⟩), .int .i64 e, .bool false] 115)
       have t3 := t1.out.trans' (g7.trans' t2)
       have c2 := ((g7.trans' t2).cell (p := ⟨wa.heap.size, 0, none⟩) (by have := s1.out; show wa.heap.size < _; omega) id).trans c1.out
       have hm : m ≠ 0 := fun h => h0.out (by rw [g3, h, Int.zero_mul])
       have hS := Sign_any q oq m _ (g1.still t2)
       have hx := exp_hi hm g3 hU.out
       have hx2 : -30000 ≤ e ∧ e ≤ 30000 := by omega
       obtain ⟨x, hTo⟩ := to_way 167 _ (.inl rfl) way_down q oq m e 1074 _ (g1.still t2) hm g6 hx2 (by omega)
       have hA : m.natAbs * 2 ^ (e + 1074 + (1074 : Nat)).toNat = U.natAbs := by rw [g3, abs_pow]; congr 2; congr 1; omega
       have hsg := @sign_pow m (e + (2148 : Nat)).toNat
       rw [← g3] at hsg
       rw [tw_down, hA, hsg, ← hR.out] at hTo
       have hs0 : (sgn m == 0) = false := beq_eq_false_iff_ne.2 (sgn_ne hm)
       have hs1 : ¬ sgn m = 0 := sgn_ne hm
       generalize sgn m = sm at *
       replace t3 := Lib.hid t3
       clear g1 g2 g3 g4 g5 g6 g7 t2 hCC)
    | (go_at_call 64; ((with_reducible refine hS.mono ?_)); rintro en wc ⟨rfl, rfl⟩)
    | (go_at_call 77; ((with_reducible refine hTo.mono ?_)); rintro en wd' ⟨rfl, t4⟩
       have t5 := Lib.hid (t3.out.trans' t4)))
  go_ret2
  exact ⟨rfl, t5.out⟩
set_option maxRecDepth 100000 in
set_option maxHeartbeats 2000000 in
theorem settle_121_2_0 (nat : Int) (pa pb : Nat) (U : Int) (w : World) (hC : ∀ W, Turn (fun _ => False) w W → Calls Tryz.prog 121 #[.pointer (some ⟨pa, 0, none⟩), .pointer (some ⟨pb, 0, none⟩)] W (NuRes W 2148 U)) (hU : U.natAbs < 2 ^ 4196) (h0 : U = 0) :
    Calls Tryz.prog 117 #[.int .i64 2, .int .i64 nat, .bool true, .func (.func 121) #[] #[.pointer (some ⟨pa, 0, none⟩), .pointer (some ⟨pb, 0, none⟩)]] w (OpR w nat) := by
  have hFd : Calls Tryz.prog 104 #[.int .i64 2] w fun e w' => e = .returned (.tuple #[.agg #[fnv 168], .bool true]) ∧ Turn (fun _ => False) w w' := find_any 2 (by omega) w
  replace hC := Lib.hid hC
  replace hU := Lib.hid hU
  replace h0 := Lib.hid h0
  go_enter Tryz.func117, Tryz.ntmps117
  go_wp2_with (first
    | (go_at_call 104
       ((with_reducible refine hFd.mono ?_))
       rintro en wa ⟨rfl, ht⟩
       have t1 := ht.alloc (.cells #[fnv 168] 145)
       have c1 := cell_made #[fnv 168] 145 wa 0
       have s1 := size_alloc wa (.cells #[fnv 168] 145)
       have hCC := hC.out _ t1
       replace t1 := Lib.hid t1
       replace c1 := Lib.hid c1
       replace s1 := Lib.hid s1
       clear ht hFd)
    | (go_at_call 121
       ((with_reducible refine hCC.mono ?_))
       rintro en wb ⟨q, oq, m, e, rfl, g1, g2, g3, g4, g5, g6, g7⟩
       have t2 := (Turn.refl (fun _ => False) wb).alloc (.cells #[.pointer (some ⟨q, 0, none⟩), .int .i64 e, .bool false] 115)
       have t3 := t1.out.trans' (g7.trans' t2)
       have c2 := ((g7.trans' t2).cell (p := ⟨wa.heap.size, 0, none⟩) (by have := s1.out; show wa.heap.size < _; omega) id).trans c1.out
       have hm : m = 0 := by
         rcases Int.mul_eq_zero.1 (g3.symm.trans h0.out) with h | h
         · exact h
         · have := pow_pos2 (e + (2148 : Nat)).toNat; omega
       have hS := Sign_any q oq m _ (g1.still t2)
       rw [hm, sgn0] at hS
       replace t3 := Lib.hid t3
       clear g1 g2 g3 g4 g5 g6 g7 t2 hCC)
    | (go_at_call 64; ((with_reducible refine hS.mono ?_)); rintro en wc ⟨rfl, rfl⟩))
  go_ret2
  exact ⟨rfl, t3.out⟩
set_option maxRecDepth 100000 in
set_option maxHeartbeats 2000000 in
theorem settle_121_2_1 (nat : Int) (pa pb : Nat) (U : Int) (w : World) (b : Int) (R : Nat) (hb : b = iw R) (hR : R = uw (fw U.natAbs 1074 (decide (U < 0))) (fa U.natAbs 1074 (decide (U < 0))) (decide (U < 0))) (hC : ∀ W, Turn (fun _ => False) w W → Calls Tryz.prog 121 #[.pointer (some ⟨pa, 0, none⟩), .pointer (some ⟨pb, 0, none⟩)] W (NuRes W 2148 U)) (hU : U.natAbs < 2 ^ 4196) (h0 : U ≠ 0) :
    Calls Tryz.prog 117 #[.int .i64 2, .int .i64 nat, .bool true, .func (.func 121) #[] #[.pointer (some ⟨pa, 0, none⟩), .pointer (some ⟨pb, 0, none⟩)]] w (OpR w b) := by
  have hFd : Calls Tryz.prog 104 #[.int .i64 2] w fun e w' => e = .returned (.tuple #[.agg #[fnv 168], .bool true]) ∧ Turn (fun _ => False) w w' := find_any 2 (by omega) w
  replace hC := Lib.hid hC
  replace hU := Lib.hid hU
  subst hb
  replace hR := Lib.hid hR
  replace h0 := Lib.hid h0
  go_enter Tryz.func117, Tryz.ntmps117
  go_wp2_with (first
    | (go_at_call 104
       ((with_reducible refine hFd.mono ?_))
       rintro en wa ⟨rfl, ht⟩
       have t1 := ht.alloc (.cells #[fnv 168] 145)
       have c1 := cell_made #[fnv 168] 145 wa 0
       have s1 := size_alloc wa (.cells #[fnv 168] 145)
       have hCC := hC.out _ t1
       replace t1 := Lib.hid t1
       replace c1 := Lib.hid c1
       replace s1 := Lib.hid s1
       clear ht hFd)
    | (go_at_call 121
       ((with_reducible refine hCC.mono ?_))
       rintro en wb ⟨q, oq, m, e, rfl, g1, g2, g3, g4, g5, g6, g7⟩
       have t2 := (Turn.refl (fun _ => False) wb).alloc (.cells #[.pointer (some ⟨q, 0, none⟩), .int .i64 e, .bool false] 115)
       have t3 := t1.out.trans' (g7.trans' t2)
       have c2 := ((g7.trans' t2).cell (p := ⟨wa.heap.size, 0, none⟩) (by have := s1.out; show wa.heap.size < _; omega) id).trans c1.out
       have hm : m ≠ 0 := fun h => h0.out (by rw [g3, h, Int.zero_mul])
       have hS := Sign_any q oq m _ (g1.still t2)
       have hx := exp_hi hm g3 hU.out
       have hx2 : -30000 ≤ e ∧ e ≤ 30000 := by omega
       obtain ⟨x, hTo⟩ := to_way 168 _ (.inr (.inl rfl)) way_up q oq m e 1074 _ (g1.still t2) hm g6 hx2 (by omega)
       have hA : m.natAbs * 2 ^ (e + 1074 + (1074 : Nat)).toNat = U.natAbs := by rw [g3, abs_pow]; congr 2; congr 1; omega
       have hsg := @sign_pow m (e + (2148 : Nat)).toNat
       rw [← g3] at hsg
       rw [tw_up, hA, hsg, ← hR.out] at hTo
       have hs0 : (sgn m == 0) = false := beq_eq_false_iff_ne.2 (sgn_ne hm)
       have hs1 : ¬ sgn m = 0 := sgn_ne hm
       generalize sgn m = sm at *
       replace t3 := Lib.hid t3
       clear g1 g2 g3 g4 g5 g6 g7 t2 hCC)
    | (go_at_call 64; ((with_reducible refine hS.mono ?_)); rintro en wc ⟨rfl, rfl⟩)
    | (go_at_call 77; ((with_reducible refine hTo.mono ?_)); rintro en wd' ⟨rfl, t4⟩
       have t5 := Lib.hid (t3.out.trans' t4)))
  go_ret2
  exact ⟨rfl, t5.out⟩
end
end Go.Proofs.YtllapbkoildfiaaGreatFmt
