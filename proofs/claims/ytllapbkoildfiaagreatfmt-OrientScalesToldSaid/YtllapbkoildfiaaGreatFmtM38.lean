/- round: number.to. -/
import Derived.Test.YtllapbkoildfiaaGreatFmtM24
import Derived.Test.YtllapbkoildfiaaGreatFmtM37
import Derived.Test.YtllapbkoildfiaaGreatFmtM30
set_option linter.all false
set_option exponentiation.threshold 100000
namespace Go.Proofs.YtllapbkoildfiaaGreatFmt
section
open Go.RowKit
def ToR (w : World) (R : Nat) (x : Bool) (en : Ending) (w' : World) : Prop := en = .returned (.tuple #[.int .i64 (iw R), .bool x]) ∧ Turn (fun _ => False) w w'
structure Way (k : FuncId) (T : Nat → Bool → Nat) : Prop where
  call : ∀ n ng ab w, NN n → Calls Tryz.prog k #[.int .i64 (iw n), .bool ng, .bool ab, fnv 110, fnv 111] w fun e w' => e = .returned (.int .i64 (iw (T n ab))) ∧ w = w'
  nn : ∀ n ab, NN n → NN (T n ab)
theorem way_near : Way 169 (fun n _ => n) := ⟨fun n ng ab w _ => near_any n ng ab w, fun _ _ h => h⟩
theorem way_down : Way 167 (fun n ab => if ab then pv n else n) := ⟨fun n ng ab w h => down_any n ng ab w h, fun n ab h => by cases ab <;> simp [h, pv_nn h]⟩
theorem way_up : Way 168 (fun n ab => if ab then n else nx n) := ⟨fun n ng ab w h => up_any n ng ab w h, fun n ab h => by cases ab <;> simp [h, nx_nn h]⟩
def tw (T : Nat → Bool → Nat) (b : Nat) (acc : Int) (ng : Bool) : Nat := if acc = 0 then b else sg (T b (decide (acc = 1))) ng
theorem tw_near (b : Nat) (acc : Int) (ng : Bool) : tw (fun n _ => n) b acc ng = nw b acc ng := rfl
theorem tw_down (b : Nat) (acc : Int) (ng : Bool) : tw (fun n ab => if ab then pv n else n) b acc ng = dn b acc ng := by
  unfold tw dn
  split
  · rfl
  · by_cases h : acc = 1
    · simp [h]
    · simp [h]
theorem tw_up (b : Nat) (acc : Int) (ng : Bool) : tw (fun n ab => if ab then n else nx n) b acc ng = uw b acc ng := by
  unfold tw uw
  split
  · rfl
  · by_cases h : acc = 1
    · simp [h]
    · simp [h]
structure TB (w wx : World) (k : FuncId) : Prop where
  x2 : wx.cell? ⟨w.heap.size, 2, none⟩ = some (.bool false)
  v : wx.cell? ⟨w.heap.size + 1, 0, none⟩ = some (fnv k)
  turn : Turn (fun _ => False) w wx
  sz : w.heap.size + 1 < wx.heap.size
theorem TB.more {w wx wy : World} {k : FuncId} (h : TB w wx k) {S : Nat → Prop} (t : Turn S wx wy) (hS : ∀ k, S k → w.heap.size + 1 < k) : TB w wy k := by
  have hl := h.sz
  have n0 : ¬ S w.heap.size := fun g => by have := hS _ g; omega
  have n1 : ¬ S (w.heap.size + 1) := fun g => by have := hS _ g; omega
  exact ⟨(t.cell (p := ⟨w.heap.size, 2, none⟩) (by show w.heap.size < _; omega) n0).trans h.x2, (t.cell (p := ⟨w.heap.size + 1, 0, none⟩) hl n1).trans h.v, h.turn.trans t fun k hk g => by (have := hS k g; omega), Nat.lt_of_lt_of_le hl t.size⟩
theorem TB.made (w : World) (a b : Value) (k : FuncId) : TB w ((w.alloc (.cells #[a, b, .bool false] 115)).alloc (.cells #[fnv k] 145)) k ∧ ((w.alloc (.cells #[a, b, .bool false] 115)).alloc (.cells #[fnv k] 145)).heap.size = w.heap.size + 1 + 1 ∧
    ((w.alloc (.cells #[a, b, .bool false] 115)).alloc (.cells #[fnv k] 145)).cell? ⟨w.heap.size, 0, none⟩ = some a ∧ ((w.alloc (.cells #[a, b, .bool false] 115)).alloc (.cells #[fnv k] 145)).cell? ⟨w.heap.size, 1, none⟩ = some b := by
  have c1 := fun i => cell_made #[a, b, .bool false] 115 w i
  have s1 := size_alloc w (.cells #[a, b, .bool false] 115)
  have t1 := (Turn.refl (fun _ => False) w).alloc (.cells #[a, b, .bool false] 115)
  generalize w.alloc (.cells #[a, b, .bool false] 115) = w1 at *
  have c2 := cell_made #[fnv k] 145 w1 0
  have s2 := size_alloc w1 (.cells #[fnv k] 145)
  have t2 := (Turn.refl (fun _ => False) w1).alloc (.cells #[fnv k] 145)
  generalize w1.alloc (.cells #[fnv k] 145) = w2 at *
  rw [s1] at c2 s2
  have l1 : w.heap.size < w1.heap.size := by omega
  exact ⟨⟨(t2.cell (p := ⟨w.heap.size, 2, none⟩) l1 id).trans (c1 2), c2, t1.trans' t2, by omega⟩, s2, (t2.cell (p := ⟨w.heap.size, 0, none⟩) l1 id).trans (c1 0), (t2.cell (p := ⟨w.heap.size, 1, none⟩) l1 id).trans (c1 1)⟩
theorem signed_sg (n : Nat) (b : Bool) (w : World) (h : NN n) : Calls Tryz.prog 112 #[.int .i64 (iw n), .bool b] w fun e w' => e = .returned (.int .i64 (iw (sg n b))) ∧ w = w' := by
  unfold sg
  exact signed_any n b w h
set_option maxRecDepth 100000 in
set_option maxHeartbeats 4000000 in
theorem to_167_0 (T : Nat → Bool → Nat) (hW : Way 167 T) (q : Nat) (oq : Option (Nat × Nat)) (m e : Int) (J : Nat) (w : World) (hI : It w q oq m) (hm : m ≠ 0) (hb : bl m.natAbs ≤ 60000) (he : -30000 ≤ e ∧ e ≤ 30000) (hJ : 0 ≤ e + 1074 + J)
    (B : Nat) (a : Int) (hB : B = fw (m.natAbs * 2 ^ (e + 1074 + J).toNat) J (decide (m < 0))) (ha : a = fa (m.natAbs * 2 ^ (e + 1074 + J).toNat) J (decide (m < 0))) (ha0 : a = 0) :
    Calls Tryz.prog 77 #[.agg #[.pointer (some ⟨q, 0, none⟩), .int .i64 e, .bool false], .agg #[fnv 167]] w (ToR w B false) := by
  obtain ⟨F, hsz, x0, x1⟩ := TB.made w (.pointer (some ⟨q, 0, none⟩)) (.int .i64 e) 167
  have hI1 := hI.still F.turn
  have hSt := stuck_any q oq m e _ hI1 (by omega) (by omega)
  have hBn : NN B := by rw [hB]; exact fw_nn _ _ _
  have hbl2 : bl (m * 2).natAbs ≤ 60001 := by
    have : (m * 2).natAbs = m.natAbs * 2 := by omega
    rw [this]
    refine bl_le ?_
    have h1 := bl_lt (x := m.natAbs)
    have h2 : 2 ^ bl m.natAbs ≤ 2 ^ 60000 := Nat.pow_le_pow_right (by omega) hb
    have h3 : (2 : Nat) ^ (60000 + 1) = 2 ^ 60000 * 2 := Nat.pow_succ ..
    rw [show 60001 = 60000 + 1 from rfl, h3]
    generalize (2 : Nat) ^ 60000 = W at *
    omega
  have hmx : max (e - 1) (-4194304) = e - 1 := by omega
  have hmn : min (e - 1) 4194304 = e - 1 := by omega
  have hd : decide (a ≠ 0) = false := decide_eq_false (by omega)
  replace hB := Lib.hid hB
  replace ha := Lib.hid ha
  replace F := Lib.hid F
  replace hsz := Lib.hid hsz
  replace hBn := Lib.hid hBn
  replace hW := Lib.hid hW
  have hI0 := Lib.hid hI
  clear hI hI1
  go_enter Tryz.func77, Tryz.ntmps77
  go_wp2_with (first
    | (go_at_call 106
       ((with_reducible refine hSt.mono ?_))
       rintro en wa ⟨q2, o2, rfl, g1, g2, g3⟩
       have F1 := F.out.more g3 fun _ h => h.elim
       have y0 := cell_made #[.pointer (some ⟨q2, 0, none⟩), .int .i64 (e - 1), .bool false] 115 wa 0
       have y1 := cell_made #[.pointer (some ⟨q2, 0, none⟩), .int .i64 (e - 1), .bool false] 115 wa 1
       have s4 := size_alloc wa (.cells #[.pointer (some ⟨q2, 0, none⟩), .int .i64 (e - 1), .bool false] 115)
       have t4 := (Turn.refl (fun _ => False) wa).alloc (.cells #[.pointer (some ⟨q2, 0, none⟩), .int .i64 (e - 1), .bool false] 115)
       generalize hw4 : wa.alloc (.cells #[.pointer (some ⟨q2, 0, none⟩), .int .i64 (e - 1), .bool false] 115) = w4 at y0 y1 s4 t4
       have hfl := Fl.made w4 0 0 rfl
       have s5 := size_alloc w4 (.cells #[.int .u32 0, .int .u8 0, .int .i8 0, .int .u8 0, .bool false, .slice none 0 0, .int .i32 0] 159)
       have t5 := (Turn.refl (fun _ => False) w4).alloc (.cells #[.int .u32 0, .int .u8 0, .int .i8 0, .int .u8 0, .bool false, .slice none 0 0, .int .i32 0] 159)
       rw [s4] at hfl
       have hlq : ∀ k, IB q2 o2 k → k < wa.heap.size := fun k hk => g1.lt hk
       have hSI := SetInt_some (p := wa.heap.size + 1) q2 o2 (m * 2) _ hfl (g1.still (t4.trans' t5)) (fun hk => by have := hlq _ hk; omega) (by omega) (by omega)
       have z0 := (t5.cell (p := ⟨wa.heap.size, 0, none⟩) (by show wa.heap.size < _; omega) id).trans y0
       have z1 := (t5.cell (p := ⟨wa.heap.size, 1, none⟩) (by show wa.heap.size < _; omega) id).trans y1
       have F2 := (F1.more t4 fun _ h => h.elim).more t5 fun _ h => h.elim
       have i2 := g1.still (t4.trans' t5)
       have hz1 := F1.sz
       rw [s4] at s5
       rw [← hw4] at hSI z0 z1 F2 i2 s5
       have s6 := s5.symm
       replace F2 := Lib.hid F2
       replace i2 := Lib.hid i2
       replace s6 := Lib.hid s6
       replace g2 := Lib.hid g2
       replace hlq := Lib.hid hlq
       replace hz1 := Lib.hid hz1
       clear F1 g1 g3 y0 y1 s4 t4 hfl s5 t5 hw4)
    | (go_at_call 107
       ((with_reducible refine hSI.mono ?_))
       rintro en wb ⟨rfl, ⟨b, c, n, g, hv, hbn⟩, ht⟩
       have hbn2 : wa.heap.size + 1 + 1 ≤ b := by rw [s6.out]; exact hbn
       have hs7 : wa.heap.size + 1 + 1 ≤ wb.heap.size := by rw [s6.out]; exact ht.size
       have z0 := (ht.cell (p := ⟨wa.heap.size, 0, none⟩) (World.block_lt_of_cell? _ _ z0) (by show ¬ wa.heap.size = wa.heap.size + 1; omega)).trans z0
       have z1 := (ht.cell (p := ⟨wa.heap.size, 1, none⟩) (World.block_lt_of_cell? _ _ z1) (by show ¬ wa.heap.size = wa.heap.size + 1; omega)).trans z1
       have F3 := F2.out.more ht fun k hk => by have := hz1.out; omega
       have i3 := i2.out.turn ht fun k hk hh => by have := hlq.out k hk; omega
       have hSM := SetMantExp_some (e - 1) wb hv (by omega) (by omega) (by omega)
       replace F3 := Lib.hid F3
       replace i3 := Lib.hid i3
       clear hv hbn ht)
    | (go_at_call 108
       ((with_reducible refine hSM.mono ?_))
       rintro en wc ⟨rfl, ⟨g', hv⟩, ht⟩
       have z0 := (ht.cell (p := ⟨wa.heap.size, 0, none⟩) (by show wa.heap.size < _; omega) (by show ¬ (wa.heap.size = wa.heap.size + 1 ∨ wa.heap.size = b); omega)).trans z0
       have F4 := F3.out.more ht fun k hk => by have := hz1.out; omega
       have i4 := i3.out.turn ht fun k hk hh => by have := hlq.out k hk; omega
       have hF := f64_some wc hv.fl hv.n1 (by have := hv.hi; omega) hv.top (by omega) (by have := hv.lo; omega) (Mq.twice hm hv.val hv.lo hJ)
       have hng : decide (m * 2 < 0) = decide (m < 0) := by rw [decide_eq_decide]; omega
       rw [hng] at hF
       have hF : Calls Tryz.prog 109 #[.pointer (some ⟨wa.heap.size + 1, 0, none⟩)] wc fun en w' => en = .returned (.tuple #[.float .f64 B, .int .i8 a]) ∧ Turn (fun _ => False) wc w' := by
         rw [hB.out, ha.out]; exact hF
       replace F4 := Lib.hid F4
       replace i4 := Lib.hid i4
       clear hv ht hng)
    | (go_at_call 109
       ((with_reducible refine hF.mono ?_))
       rintro en wd' ⟨rfl, ht⟩
       have z0 := (ht.cell (p := ⟨wa.heap.size, 0, none⟩) (World.block_lt_of_cell? _ _ z0) id).trans z0
       have F5 := F4.out.more ht fun _ h => h.elim
       have i5 := i4.out.still ht
       have hOf := bOf_any B wd' hBn.out
       have x2 := F5.x2
       have xv := F5.v
       have hT := Lib.hid F5.turn
       clear ht F5)
    | (go_at_call 59; ((with_reducible refine hOf.mono ?_)); rintro en we ⟨rfl, rfl⟩))
  go_quiet (fail)
  go_wp2_with fail
  go_ret2
  exact ⟨rfl, hT.out.drewN _⟩
set_option maxRecDepth 100000 in
set_option maxHeartbeats 4000000 in
theorem to_167_1 (T : Nat → Bool → Nat) (hW : Way 167 T) (q : Nat) (oq : Option (Nat × Nat)) (m e : Int) (J : Nat) (w : World) (hI : It w q oq m) (hm : m ≠ 0) (hb : bl m.natAbs ≤ 60000) (he : -30000 ≤ e ∧ e ≤ 30000) (hJ : 0 ≤ e + 1074 + J)
    (B : Nat) (a : Int) (hB : B = fw (m.natAbs * 2 ^ (e + 1074 + J).toNat) J (decide (m < 0))) (ha : a = fa (m.natAbs * 2 ^ (e + 1074 + J).toNat) J (decide (m < 0))) (ha0 : a ≠ 0) :
    Calls Tryz.prog 77 #[.agg #[.pointer (some ⟨q, 0, none⟩), .int .i64 e, .bool false], .agg #[fnv 167]] w (ToR w (sg (T B (a == 1)) (decide (m < 0))) true) := by
  obtain ⟨F, hsz, x0, x1⟩ := TB.made w (.pointer (some ⟨q, 0, none⟩)) (.int .i64 e) 167
  have hI1 := hI.still F.turn
  have hSt := stuck_any q oq m e _ hI1 (by omega) (by omega)
  have hBn : NN B := by rw [hB]; exact fw_nn _ _ _
  have hbl2 : bl (m * 2).natAbs ≤ 60001 := by
    have : (m * 2).natAbs = m.natAbs * 2 := by omega
    rw [this]
    refine bl_le ?_
    have h1 := bl_lt (x := m.natAbs)
    have h2 : 2 ^ bl m.natAbs ≤ 2 ^ 60000 := Nat.pow_le_pow_right (by omega) hb
    have h3 : (2 : Nat) ^ (60000 + 1) = 2 ^ 60000 * 2 := Nat.pow_succ ..
    rw [show 60001 = 60000 + 1 from rfl, h3]
    generalize (2 : Nat) ^ 60000 = W at *
    omega
  have hmx : max (e - 1) (-4194304) = e - 1 := by omega
  have hmn : min (e - 1) 4194304 = e - 1 := by omega
  have hd : decide (a ≠ 0) = true := decide_eq_true ha0
  have hn1 : NN (T B (a == 1)) := hW.nn _ _ hBn
  obtain ⟨s, hs⟩ : ∃ s, s = sgn (m * 2) := ⟨_, rfl⟩
  have hsd : decide (s < 0) = decide (m < 0) := by
    rw [decide_eq_decide, hs]
    unfold sgn
    split <;> (try split) <;> omega
  replace hs := Lib.hid hs
  replace hsd := Lib.hid hsd
  replace hn1 := Lib.hid hn1
  replace hB := Lib.hid hB
  replace ha := Lib.hid ha
  replace F := Lib.hid F
  replace hsz := Lib.hid hsz
  replace hBn := Lib.hid hBn
  replace hW := Lib.hid hW
  have hI0 := Lib.hid hI
  clear hI hI1
  go_enter Tryz.func77, Tryz.ntmps77
  go_wp2_with (first
    | (go_at_call 106
       ((with_reducible refine hSt.mono ?_))
       rintro en wa ⟨q2, o2, rfl, g1, g2, g3⟩
       have F1 := F.out.more g3 fun _ h => h.elim
       have y0 := cell_made #[.pointer (some ⟨q2, 0, none⟩), .int .i64 (e - 1), .bool false] 115 wa 0
       have y1 := cell_made #[.pointer (some ⟨q2, 0, none⟩), .int .i64 (e - 1), .bool false] 115 wa 1
       have s4 := size_alloc wa (.cells #[.pointer (some ⟨q2, 0, none⟩), .int .i64 (e - 1), .bool false] 115)
       have t4 := (Turn.refl (fun _ => False) wa).alloc (.cells #[.pointer (some ⟨q2, 0, none⟩), .int .i64 (e - 1), .bool false] 115)
       generalize hw4 : wa.alloc (.cells #[.pointer (some ⟨q2, 0, none⟩), .int .i64 (e - 1), .bool false] 115) = w4 at y0 y1 s4 t4
       have hfl := Fl.made w4 0 0 rfl
       have s5 := size_alloc w4 (.cells #[.int .u32 0, .int .u8 0, .int .i8 0, .int .u8 0, .bool false, .slice none 0 0, .int .i32 0] 159)
       have t5 := (Turn.refl (fun _ => False) w4).alloc (.cells #[.int .u32 0, .int .u8 0, .int .i8 0, .int .u8 0, .bool false, .slice none 0 0, .int .i32 0] 159)
       rw [s4] at hfl
       have hlq : ∀ k, IB q2 o2 k → k < wa.heap.size := fun k hk => g1.lt hk
       have hSI := SetInt_some (p := wa.heap.size + 1) q2 o2 (m * 2) _ hfl (g1.still (t4.trans' t5)) (fun hk => by have := hlq _ hk; omega) (by omega) (by omega)
       have z0 := (t5.cell (p := ⟨wa.heap.size, 0, none⟩) (by show wa.heap.size < _; omega) id).trans y0
       have z1 := (t5.cell (p := ⟨wa.heap.size, 1, none⟩) (by show wa.heap.size < _; omega) id).trans y1
       have F2 := (F1.more t4 fun _ h => h.elim).more t5 fun _ h => h.elim
       have i2 := g1.still (t4.trans' t5)
       have hz1 := F1.sz
       rw [s4] at s5
       rw [← hw4] at hSI z0 z1 F2 i2 s5
       have s6 := s5.symm
       replace F2 := Lib.hid F2
       replace i2 := Lib.hid i2
       replace s6 := Lib.hid s6
       replace g2 := Lib.hid g2
       replace hlq := Lib.hid hlq
       replace hz1 := Lib.hid hz1
       clear F1 g1 g3 y0 y1 s4 t4 hfl s5 t5 hw4)
    | (go_at_call 107
       ((with_reducible refine hSI.mono ?_))
       rintro en wb ⟨rfl, ⟨b, c, n, g, hv, hbn⟩, ht⟩
       have hbn2 : wa.heap.size + 1 + 1 ≤ b := by rw [s6.out]; exact hbn
       have hs7 : wa.heap.size + 1 + 1 ≤ wb.heap.size := by rw [s6.out]; exact ht.size
       have z0 := (ht.cell (p := ⟨wa.heap.size, 0, none⟩) (World.block_lt_of_cell? _ _ z0) (by show ¬ wa.heap.size = wa.heap.size + 1; omega)).trans z0
       have z1 := (ht.cell (p := ⟨wa.heap.size, 1, none⟩) (World.block_lt_of_cell? _ _ z1) (by show ¬ wa.heap.size = wa.heap.size + 1; omega)).trans z1
       have F3 := F2.out.more ht fun k hk => by have := hz1.out; omega
       have i3 := i2.out.turn ht fun k hk hh => by have := hlq.out k hk; omega
       have hSM := SetMantExp_some (e - 1) wb hv (by omega) (by omega) (by omega)
       replace F3 := Lib.hid F3
       replace i3 := Lib.hid i3
       clear hv hbn ht)
    | (go_at_call 108
       ((with_reducible refine hSM.mono ?_))
       rintro en wc ⟨rfl, ⟨g', hv⟩, ht⟩
       have z0 := (ht.cell (p := ⟨wa.heap.size, 0, none⟩) (by show wa.heap.size < _; omega) (by show ¬ (wa.heap.size = wa.heap.size + 1 ∨ wa.heap.size = b); omega)).trans z0
       have F4 := F3.out.more ht fun k hk => by have := hz1.out; omega
       have i4 := i3.out.turn ht fun k hk hh => by have := hlq.out k hk; omega
       have hF := f64_some wc hv.fl hv.n1 (by have := hv.hi; omega) hv.top (by omega) (by have := hv.lo; omega) (Mq.twice hm hv.val hv.lo hJ)
       have hng : decide (m * 2 < 0) = decide (m < 0) := by rw [decide_eq_decide]; omega
       rw [hng] at hF
       have hF : Calls Tryz.prog 109 #[.pointer (some ⟨wa.heap.size + 1, 0, none⟩)] wc fun en w' => en = .returned (.tuple #[.float .f64 B, .int .i8 a]) ∧ Turn (fun _ => False) wc w' := by
         rw [hB.out, ha.out]; exact hF
       replace F4 := Lib.hid F4
       replace i4 := Lib.hid i4
       clear hv ht hng)
    | (go_at_call 109
       ((with_reducible refine hF.mono ?_))
       rintro en wd' ⟨rfl, ht⟩
       have z0 := (ht.cell (p := ⟨wa.heap.size, 0, none⟩) (World.block_lt_of_cell? _ _ z0) id).trans z0
       have F5 := F4.out.more ht fun _ h => h.elim
       have i5 := i4.out.still ht
       have hOf := bOf_any B wd' hBn.out
       have x2 := F5.x2
       have xv := F5.v
       have hT := Lib.hid F5.turn
       clear ht F5)
    | (go_at_call 59; ((with_reducible refine hOf.mono ?_)); rintro en we ⟨rfl, rfl⟩))
  have hSg := fun N => Sign_any q2 o2 (m * 2) _ (i5.drewN N)
  rw [← hs.out] at hSg
  have hTc := fun ng ab w => hW.out.call B ng ab w hBn.out
  have hSd := fun b w => signed_sg (T B (a == 1)) b w hn1.out
  go_quiet (first
    | (go_at_call 64; exact quiet_same (hSg _))
    | (go_at_call 167; exact quiet_same (hTc _ _ _)))
  go_wp2_with (first
    | (go_at_call 64; ((with_reducible refine (hSg _).mono ?_)); rintro en wf ⟨rfl, rfl⟩)
    | (go_at_call 112; ((with_reducible refine (hSd _ _).mono ?_)); rintro en wf ⟨rfl, rfl⟩))
  rw [hsd.out]
  go_quiet (fail)
  go_wp2_with fail
  go_ret2
  exact ⟨rfl, (hT.out.drewN _).drewN _⟩
set_option maxRecDepth 100000 in
set_option maxHeartbeats 4000000 in
theorem to_168_0 (T : Nat → Bool → Nat) (hW : Way 168 T) (q : Nat) (oq : Option (Nat × Nat)) (m e : Int) (J : Nat) (w : World) (hI : It w q oq m) (hm : m ≠ 0) (hb : bl m.natAbs ≤ 60000) (he : -30000 ≤ e ∧ e ≤ 30000) (hJ : 0 ≤ e + 1074 + J)
    (B : Nat) (a : Int) (hB : B = fw (m.natAbs * 2 ^ (e + 1074 + J).toNat) J (decide (m < 0))) (ha : a = fa (m.natAbs * 2 ^ (e + 1074 + J).toNat) J (decide (m < 0))) (ha0 : a = 0) :
    Calls Tryz.prog 77 #[.agg #[.pointer (some ⟨q, 0, none⟩), .int .i64 e, .bool false], .agg #[fnv 168]] w (ToR w B false) := by
  obtain ⟨F, hsz, x0, x1⟩ := TB.made w (.pointer (some ⟨q, 0, none⟩)) (.int .i64 e) 168
  have hI1 := hI.still F.turn
  have hSt := stuck_any q oq m e _ hI1 (by omega) (by omega)
  have hBn : NN B := by rw [hB]; exact fw_nn _ _ _
  have hbl2 : bl (m * 2).natAbs ≤ 60001 := by
    have : (m * 2).natAbs = m.natAbs * 2 := by omega
    rw [this]
    refine bl_le ?_
    have h1 := bl_lt (x := m.natAbs)
    have h2 : 2 ^ bl m.natAbs ≤ 2 ^ 60000 := Nat.pow_le_pow_right (by omega) hb
    have h3 : (2 : Nat) ^ (60000 + 1) = 2 ^ 60000 * 2 := Nat.pow_succ ..
    rw [show 60001 = 60000 + 1 from rfl, h3]
    generalize (2 : Nat) ^ 60000 = W at *
    omega
  have hmx : max (e - 1) (-4194304) = e - 1 := by omega
  have hmn : min (e - 1) 4194304 = e - 1 := by omega
  have hd : decide (a ≠ 0) = false := decide_eq_false (by omega)
  replace hB := Lib.hid hB
  replace ha := Lib.hid ha
  replace F := Lib.hid F
  replace hsz := Lib.hid hsz
  replace hBn := Lib.hid hBn
  replace hW := Lib.hid hW
  have hI0 := Lib.hid hI
  clear hI hI1
  go_enter Tryz.func77, Tryz.ntmps77
  go_wp2_with (first
    | (go_at_call 106
       ((with_reducible refine hSt.mono ?_))
       rintro en wa ⟨q2, o2, rfl, g1, g2, g3⟩
       have F1 := F.out.more g3 fun _ h => h.elim
       have y0 := cell_made #[.pointer (some ⟨q2, 0, none⟩), .int .i64 (e - 1), .bool false] 115 wa 0
       have y1 := cell_made #[.pointer (some ⟨q2, 0, none⟩), .int .i64 (e - 1), .bool false] 115 wa 1
       have s4 := size_alloc wa (.cells #[.pointer (some ⟨q2, 0, none⟩), .int .i64 (e - 1), .bool false] 115)
       have t4 := (Turn.refl (fun _ => False) wa).alloc (.cells #[.pointer (some ⟨q2, 0, none⟩), .int .i64 (e - 1), .bool false] 115)
       generalize hw4 : wa.alloc (.cells #[.pointer (some ⟨q2, 0, none⟩), .int .i64 (e - 1), .bool false] 115) = w4 at y0 y1 s4 t4
       have hfl := Fl.made w4 0 0 rfl
       have s5 := size_alloc w4 (.cells #[.int .u32 0, .int .u8 0, .int .i8 0, .int .u8 0, .bool false, .slice none 0 0, .int .i32 0] 159)
       have t5 := (Turn.refl (fun _ => False) w4).alloc (.cells #[.int .u32 0, .int .u8 0, .int .i8 0, .int .u8 0, .bool false, .slice none 0 0, .int .i32 0] 159)
       rw [s4] at hfl
       have hlq : ∀ k, IB q2 o2 k → k < wa.heap.size := fun k hk => g1.lt hk
       have hSI := SetInt_some (p := wa.heap.size + 1) q2 o2 (m * 2) _ hfl (g1.still (t4.trans' t5)) (fun hk => by have := hlq _ hk; omega) (by omega) (by omega)
       have z0 := (t5.cell (p := ⟨wa.heap.size, 0, none⟩) (by show wa.heap.size < _; omega) id).trans y0
       have z1 := (t5.cell (p := ⟨wa.heap.size, 1, none⟩) (by show wa.heap.size < _; omega) id).trans y1
       have F2 := (F1.more t4 fun _ h => h.elim).more t5 fun _ h => h.elim
       have i2 := g1.still (t4.trans' t5)
       have hz1 := F1.sz
       rw [s4] at s5
       rw [← hw4] at hSI z0 z1 F2 i2 s5
       have s6 := s5.symm
       replace F2 := Lib.hid F2
       replace i2 := Lib.hid i2
       replace s6 := Lib.hid s6
       replace g2 := Lib.hid g2
       replace hlq := Lib.hid hlq
       replace hz1 := Lib.hid hz1
       clear F1 g1 g3 y0 y1 s4 t4 hfl s5 t5 hw4)
    | (go_at_call 107
       ((with_reducible refine hSI.mono ?_))
       rintro en wb ⟨rfl, ⟨b, c, n, g, hv, hbn⟩, ht⟩
       have hbn2 : wa.heap.size + 1 + 1 ≤ b := by rw [s6.out]; exact hbn
       have hs7 : wa.heap.size + 1 + 1 ≤ wb.heap.size := by rw [s6.out]; exact ht.size
       have z0 := (ht.cell (p := ⟨wa.heap.size, 0, none⟩) (World.block_lt_of_cell? _ _ z0) (by show ¬ wa.heap.size = wa.heap.size + 1; omega)).trans z0
       have z1 := (ht.cell (p := ⟨wa.heap.size, 1, none⟩) (World.block_lt_of_cell? _ _ z1) (by show ¬ wa.heap.size = wa.heap.size + 1; omega)).trans z1
       have F3 := F2.out.more ht fun k hk => by have := hz1.out; omega
       have i3 := i2.out.turn ht fun k hk hh => by have := hlq.out k hk; omega
       have hSM := SetMantExp_some (e - 1) wb hv (by omega) (by omega) (by omega)
       replace F3 := Lib.hid F3
       replace i3 := Lib.hid i3
       clear hv hbn ht)
    | (go_at_call 108
       ((with_reducible refine hSM.mono ?_))
       rintro en wc ⟨rfl, ⟨g', hv⟩, ht⟩
       have z0 := (ht.cell (p := ⟨wa.heap.size, 0, none⟩) (by show wa.heap.size < _; omega) (by show ¬ (wa.heap.size = wa.heap.size + 1 ∨ wa.heap.size = b); omega)).trans z0
       have F4 := F3.out.more ht fun k hk => by have := hz1.out; omega
       have i4 := i3.out.turn ht fun k hk hh => by have := hlq.out k hk; omega
       have hF := f64_some wc hv.fl hv.n1 (by have := hv.hi; omega) hv.top (by omega) (by have := hv.lo; omega) (Mq.twice hm hv.val hv.lo hJ)
       have hng : decide (m * 2 < 0) = decide (m < 0) := by rw [decide_eq_decide]; omega
       rw [hng] at hF
       have hF : Calls Tryz.prog 109 #[.pointer (some ⟨wa.heap.size + 1, 0, none⟩)] wc fun en w' => en = .returned (.tuple #[.float .f64 B, .int .i8 a]) ∧ Turn (fun _ => False) wc w' := by
         rw [hB.out, ha.out]; exact hF
       replace F4 := Lib.hid F4
       replace i4 := Lib.hid i4
       clear hv ht hng)
    | (go_at_call 109
       ((with_reducible refine hF.mono ?_))
       rintro en wd' ⟨rfl, ht⟩
       have z0 := (ht.cell (p := ⟨wa.heap.size, 0, none⟩) (World.block_lt_of_cell? _ _ z0) id).trans z0
       have F5 := F4.out.more ht fun _ h => h.elim
       have i5 := i4.out.still ht
       have hOf := bOf_any B wd' hBn.out
       have x2 := F5.x2
       have xv := F5.v
       have hT := Lib.hid F5.turn
       clear ht F5)
    | (go_at_call 59; ((with_reducible refine hOf.mono ?_)); rintro en we ⟨rfl, rfl⟩))
  go_quiet (fail)
  go_wp2_with fail
  go_ret2
  exact ⟨rfl, hT.out.drewN _⟩
set_option maxRecDepth 100000 in
set_option maxHeartbeats 4000000 in
theorem to_168_1 (T : Nat → Bool → Nat) (hW : Way 168 T) (q : Nat) (oq : Option (Nat × Nat)) (m e : Int) (J : Nat) (w : World) (hI : It w q oq m) (hm : m ≠ 0) (hb : bl m.natAbs ≤ 60000) (he : -30000 ≤ e ∧ e ≤ 30000) (hJ : 0 ≤ e + 1074 + J)
    (B : Nat) (a : Int) (hB : B = fw (m.natAbs * 2 ^ (e + 1074 + J).toNat) J (decide (m < 0))) (ha : a = fa (m.natAbs * 2 ^ (e + 1074 + J).toNat) J (decide (m < 0))) (ha0 : a ≠ 0) :
    Calls Tryz.prog 77 #[.agg #[.pointer (some ⟨q, 0, none⟩), .int .i64 e, .bool false], .agg #[fnv 168]] w (ToR w (sg (T B (a == 1)) (decide (m < 0))) true) := by
  obtain ⟨F, hsz, x0, x1⟩ := TB.made w (.pointer (some ⟨q, 0, none⟩)) (.int .i64 e) 168
  have hI1 := hI.still F.turn
  have hSt := stuck_any q oq m e _ hI1 (by omega) (by omega)
  have hBn : NN B := by rw [hB]; exact fw_nn _ _ _
  have hbl2 : bl (m * 2).natAbs ≤ 60001 := by
    have : (m * 2).natAbs = m.natAbs * 2 := by omega
    rw [this]
    refine bl_le ?_
    have h1 := bl_lt (x := m.natAbs)
    have h2 : 2 ^ bl m.natAbs ≤ 2 ^ 60000 := Nat.pow_le_pow_right (by omega) hb
    have h3 : (2 : Nat) ^ (60000 + 1) = 2 ^ 60000 * 2 := Nat.pow_succ ..
    rw [show 60001 = 60000 + 1 from rfl, h3]
    generalize (2 : Nat) ^ 60000 = W at *
    omega
  have hmx : max (e - 1) (-4194304) = e - 1 := by omega
  have hmn : min (e - 1) 4194304 = e - 1 := by omega
  have hd : decide (a ≠ 0) = true := decide_eq_true ha0
  have hn1 : NN (T B (a == 1)) := hW.nn _ _ hBn
  obtain ⟨s, hs⟩ : ∃ s, s = sgn (m * 2) := ⟨_, rfl⟩
  have hsd : decide (s < 0) = decide (m < 0) := by
    rw [decide_eq_decide, hs]
    unfold sgn
    split <;> (try split) <;> omega
  replace hs := Lib.hid hs
  replace hsd := Lib.hid hsd
  replace hn1 := Lib.hid hn1
  replace hB := Lib.hid hB
  replace ha := Lib.hid ha
  replace F := Lib.hid F
  replace hsz := Lib.hid hsz
  replace hBn := Lib.hid hBn
  replace hW := Lib.hid hW
  have hI0 := Lib.hid hI
  clear hI hI1
  go_enter Tryz.func77, Tryz.ntmps77
  go_wp2_with (first
    | (go_at_call 106
       ((with_reducible refine hSt.mono ?_))
       rintro en wa ⟨q2, o2, rfl, g1, g2, g3⟩
       have F1 := F.out.more g3 fun _ h => h.elim
       have y0 := cell_made #[.pointer (some ⟨q2, 0, none⟩), .int .i64 (e - 1), .bool false] 115 wa 0
       have y1 := cell_made #[.pointer (some ⟨q2, 0, none⟩), .int .i64 (e - 1), .bool false] 115 wa 1
       have s4 := size_alloc wa (.cells #[.pointer (some ⟨q2, 0, none⟩), .int .i64 (e - 1), .bool false] 115)
       have t4 := (Turn.refl (fun _ => False) wa).alloc (.cells #[.pointer (some ⟨q2, 0, none⟩), .int .i64 (e - 1), .bool false] 115)
       generalize hw4 : wa.alloc (.cells #[.pointer (some ⟨q2, 0, none⟩), .int .i64 (e - 1), .bool false] 115) = w4 at y0 y1 s4 t4
       have hfl := Fl.made w4 0 0 rfl
       have s5 := size_alloc w4 (.cells #[.int .u32 0, .int .u8 0, .int .i8 0, .int .u8 0, .bool false, .slice none 0 0, .int .i32 0] 159)
       have t5 := (Turn.refl (fun _ => False) w4).alloc (.cells #[.int .u32 0, .int .u8 0, .int .i8 0, .int .u8 0, .bool false, .slice none 0 0, .int .i32 0] 159)
       rw [s4] at hfl
       have hlq : ∀ k, IB q2 o2 k → k < wa.heap.size := fun k hk => g1.lt hk
       have hSI := SetInt_some (p := wa.heap.size + 1) q2 o2 (m * 2) _ hfl (g1.still (t4.trans' t5)) (fun hk => by have := hlq _ hk; omega) (by omega) (by omega)
       have z0 := (t5.cell (p := ⟨wa.heap.size, 0, none⟩) (by show wa.heap.size < _; omega) id).trans y0
       have z1 := (t5.cell (p := ⟨wa.heap.size, 1, none⟩) (by show wa.heap.size < _; omega) id).trans y1
       have F2 := (F1.more t4 fun _ h => h.elim).more t5 fun _ h => h.elim
       have i2 := g1.still (t4.trans' t5)
       have hz1 := F1.sz
       rw [s4] at s5
       rw [← hw4] at hSI z0 z1 F2 i2 s5
       have s6 := s5.symm
       replace F2 := Lib.hid F2
       replace i2 := Lib.hid i2
       replace s6 := Lib.hid s6
       replace g2 := Lib.hid g2
       replace hlq := Lib.hid hlq
       replace hz1 := Lib.hid hz1
       clear F1 g1 g3 y0 y1 s4 t4 hfl s5 t5 hw4)
    | (go_at_call 107
       ((with_reducible refine hSI.mono ?_))
       rintro en wb ⟨rfl, ⟨b, c, n, g, hv, hbn⟩, ht⟩
       have hbn2 : wa.heap.size + 1 + 1 ≤ b := by rw [s6.out]; exact hbn
       have hs7 : wa.heap.size + 1 + 1 ≤ wb.heap.size := by rw [s6.out]; exact ht.size
       have z0 := (ht.cell (p := ⟨wa.heap.size, 0, none⟩) (World.block_lt_of_cell? _ _ z0) (by show ¬ wa.heap.size = wa.heap.size + 1; omega)).trans z0
       have z1 := (ht.cell (p := ⟨wa.heap.size, 1, none⟩) (World.block_lt_of_cell? _ _ z1) (by show ¬ wa.heap.size = wa.heap.size + 1; omega)).trans z1
       have F3 := F2.out.more ht fun k hk => by have := hz1.out; omega
       have i3 := i2.out.turn ht fun k hk hh => by have := hlq.out k hk; omega
       have hSM := SetMantExp_some (e - 1) wb hv (by omega) (by omega) (by omega)
       replace F3 := Lib.hid F3
       replace i3 := Lib.hid i3
       clear hv hbn ht)
    | (go_at_call 108
       ((with_reducible refine hSM.mono ?_))
       rintro en wc ⟨rfl, ⟨g', hv⟩, ht⟩
       have z0 := (ht.cell (p := ⟨wa.heap.size, 0, none⟩) (by show wa.heap.size < _; omega) (by show ¬ (wa.heap.size = wa.heap.size + 1 ∨ wa.heap.size = b); omega)).trans z0
       have F4 := F3.out.more ht fun k hk => by have := hz1.out; omega
       have i4 := i3.out.turn ht fun k hk hh => by have := hlq.out k hk; omega
       have hF := f64_some wc hv.fl hv.n1 (by have := hv.hi; omega) hv.top (by omega) (by have := hv.lo; omega) (Mq.twice hm hv.val hv.lo hJ)
       have hng : decide (m * 2 < 0) = decide (m < 0) := by rw [decide_eq_decide]; omega
       rw [hng] at hF
       have hF : Calls Tryz.prog 109 #[.pointer (some ⟨wa.heap.size + 1, 0, none⟩)] wc fun en w' => en = .returned (.tuple #[.float .f64 B, .int .i8 a]) ∧ Turn (fun _ => False) wc w' := by
         rw [hB.out, ha.out]; exact hF
       replace F4 := Lib.hid F4
       replace i4 := Lib.hid i4
       clear hv ht hng)
    | (go_at_call 109
       ((with_reducible refine hF.mono ?_))
       rintro en wd' ⟨rfl, ht⟩
       have z0 := (ht.cell (p := ⟨wa.heap.size, 0, none⟩) (World.block_lt_of_cell? _ _ z0) id).trans z0
       have F5 := F4.out.more ht fun _ h => h.elim
       have i5 := i4.out.still ht
       have hOf := bOf_any B wd' hBn.out
       have x2 := F5.x2
       have xv := F5.v
       have hT := Lib.hid F5.turn
       clear ht F5)
    | (go_at_call 59; ((with_reducible refine hOf.mono ?_)); rintro en we ⟨rfl, rfl⟩))
  have hSg := fun N => Sign_any q2 o2 (m * 2) _ (i5.drewN N)
  rw [← hs.out] at hSg
  have hTc := fun ng ab w => hW.out.call B ng ab w hBn.out
  have hSd := fun b w => signed_sg (T B (a == 1)) b w hn1.out
  go_quiet (first
    | (go_at_call 64; exact quiet_same (hSg _))
    | (go_at_call 168; exact quiet_same (hTc _ _ _)))
  go_wp2_with (first
    | (go_at_call 64; ((with_reducible refine (hSg _).mono ?_)); rintro en wf ⟨rfl, rfl⟩)
    | (go_at_call 112; ((with_reducible refine (hSd _ _).mono ?_)); rintro en wf ⟨rfl, rfl⟩))
  rw [hsd.out]
  go_quiet (fail)
  go_wp2_with fail
  go_ret2
  exact ⟨rfl, (hT.out.drewN _).drewN _⟩
set_option maxRecDepth 100000 in
set_option maxHeartbeats 4000000 in
theorem to_169_0 (T : Nat → Bool → Nat) (hW : Way 169 T) (q : Nat) (oq : Option (Nat × Nat)) (m e : Int) (J : Nat) (w : World) (hI : It w q oq m) (hm : m ≠ 0) (hb : bl m.natAbs ≤ 60000) (he : -30000 ≤ e ∧ e ≤ 30000) (hJ : 0 ≤ e + 1074 + J)
    (B : Nat) (a : Int) (hB : B = fw (m.natAbs * 2 ^ (e + 1074 + J).toNat) J (decide (m < 0))) (ha : a = fa (m.natAbs * 2 ^ (e + 1074 + J).toNat) J (decide (m < 0))) (ha0 : a = 0) :
    Calls Tryz.prog 77 #[.agg #[.pointer (some ⟨q, 0, none⟩), .int .i64 e, .bool false], .agg #[fnv 169]] w (ToR w B false) := by
  obtain ⟨F, hsz, x0, x1⟩ := TB.made w (.pointer (some ⟨q, 0, none⟩)) (.int .i64 e) 169
  have hI1 := hI.still F.turn
  have hSt := stuck_any q oq m e _ hI1 (by omega) (by omega)
  have hBn : NN B := by rw [hB]; exact fw_nn _ _ _
  have hbl2 : bl (m * 2).natAbs ≤ 60001 := by
    have : (m * 2).natAbs = m.natAbs * 2 := by omega
    rw [this]
    refine bl_le ?_
    have h1 := bl_lt (x := m.natAbs)
    have h2 : 2 ^ bl m.natAbs ≤ 2 ^ 60000 := Nat.pow_le_pow_right (by omega) hb
    have h3 : (2 : Nat) ^ (60000 + 1) = 2 ^ 60000 * 2 := Nat.pow_succ ..
    rw [show 60001 = 60000 + 1 from rfl, h3]
    generalize (2 : Nat) ^ 60000 = W at *
    omega
  have hmx : max (e - 1) (-4194304) = e - 1 := by omega
  have hmn : min (e - 1) 4194304 = e - 1 := by omega
  have hd : decide (a ≠ 0) = false := decide_eq_false (by omega)
  replace hB := Lib.hid hB
  replace ha := Lib.hid ha
  replace F := Lib.hid F
  replace hsz := Lib.hid hsz
  replace hBn := Lib.hid hBn
  replace hW := Lib.hid hW
  have hI0 := Lib.hid hI
  clear hI hI1
  go_enter Tryz.func77, Tryz.ntmps77
  go_wp2_with (first
    | (go_at_call 106
       ((with_reducible refine hSt.mono ?_))
       rintro en wa ⟨q2, o2, rfl, g1, g2, g3⟩
       have F1 := F.out.more g3 fun _ h => h.elim
       have y0 := cell_made #[.pointer (some ⟨q2, 0, none⟩), .int .i64 (e - 1), .bool false] 115 wa 0
       have y1 := cell_made #[.pointer (some ⟨q2, 0, none⟩), .int .i64 (e - 1), .bool false] 115 wa 1
       have s4 := size_alloc wa (.cells #[.pointer (some ⟨q2, 0, none⟩), .int .i64 (e - 1), .bool false] 115)
       have t4 := (Turn.refl (fun _ => False) wa).alloc (.cells #[.pointer (some ⟨q2, 0, none⟩), .int .i64 (e - 1), .bool false] 115)
       generalize hw4 : wa.alloc (.cells #[.pointer (some ⟨q2, 0, none⟩), .int .i64 (e - 1), .bool false] 115) = w4 at y0 y1 s4 t4
       have hfl := Fl.made w4 0 0 rfl
       have s5 := size_alloc w4 (.cells #[.int .u32 0, .int .u8 0, .int .i8 0, .int .u8 0, .bool false, .slice none 0 0, .int .i32 0] 159)
       have t5 := (Turn.refl (fun _ => False) w4).alloc (.cells #[.int .u32 0, .int .u8 0, .int .i8 0, .int .u8 0, .bool false, .slice none 0 0, .int .i32 0] 159)
       rw [s4] at hfl
       have hlq : ∀ k, IB q2 o2 k → k < wa.heap.size := fun k hk => g1.lt hk
       have hSI := SetInt_some (p := wa.heap.size + 1) q2 o2 (m * 2) _ hfl (g1.still (t4.trans' t5)) (fun hk => by have := hlq _ hk; omega) (by omega) (by omega)
       have z0 := (t5.cell (p := ⟨wa.heap.size, 0, none⟩) (by show wa.heap.size < _; omega) id).trans y0
       have z1 := (t5.cell (p := ⟨wa.heap.size, 1, none⟩) (by show wa.heap.size < _; omega) id).trans y1
       have F2 := (F1.more t4 fun _ h => h.elim).more t5 fun _ h => h.elim
       have i2 := g1.still (t4.trans' t5)
       have hz1 := F1.sz
       rw [s4] at s5
       rw [← hw4] at hSI z0 z1 F2 i2 s5
       have s6 := s5.symm
       replace F2 := Lib.hid F2
       replace i2 := Lib.hid i2
       replace s6 := Lib.hid s6
       replace g2 := Lib.hid g2
       replace hlq := Lib.hid hlq
       replace hz1 := Lib.hid hz1
       clear F1 g1 g3 y0 y1 s4 t4 hfl s5 t5 hw4)
    | (go_at_call 107
       ((with_reducible refine hSI.mono ?_))
       rintro en wb ⟨rfl, ⟨b, c, n, g, hv, hbn⟩, ht⟩
       have hbn2 : wa.heap.size + 1 + 1 ≤ b := by rw [s6.out]; exact hbn
       have hs7 : wa.heap.size + 1 + 1 ≤ wb.heap.size := by rw [s6.out]; exact ht.size
       have z0 := (ht.cell (p := ⟨wa.heap.size, 0, none⟩) (World.block_lt_of_cell? _ _ z0) (by show ¬ wa.heap.size = wa.heap.size + 1; omega)).trans z0
       have z1 := (ht.cell (p := ⟨wa.heap.size, 1, none⟩) (World.block_lt_of_cell? _ _ z1) (by show ¬ wa.heap.size = wa.heap.size + 1; omega)).trans z1
       have F3 := F2.out.more ht fun k hk => by have := hz1.out; omega
       have i3 := i2.out.turn ht fun k hk hh => by have := hlq.out k hk; omega
       have hSM := SetMantExp_some (e - 1) wb hv (by omega) (by omega) (by omega)
       replace F3 := Lib.hid F3
       replace i3 := Lib.hid i3
       clear hv hbn ht)
    | (go_at_call 108
       ((with_reducible refine hSM.mono ?_))
       rintro en wc ⟨rfl, ⟨g', hv⟩, ht⟩
       have z0 := (ht.cell (p := ⟨wa.heap.size, 0, none⟩) (by show wa.heap.size < _; omega) (by show ¬ (wa.heap.size = wa.heap.size + 1 ∨ wa.heap.size = b); omega)).trans z0
       have F4 := F3.out.more ht fun k hk => by have := hz1.out; omega
       have i4 := i3.out.turn ht fun k hk hh => by have := hlq.out k hk; omega
       have hF := f64_some wc hv.fl hv.n1 (by have := hv.hi; omega) hv.top (by omega) (by have := hv.lo; omega) (Mq.twice hm hv.val hv.lo hJ)
       have hng : decide (m * 2 < 0) = decide (m < 0) := by rw [decide_eq_decide]; omega
       rw [hng] at hF
       have hF : Calls Tryz.prog 109 #[.pointer (some ⟨wa.heap.size + 1, 0, none⟩)] wc fun en w' => en = .returned (.tuple #[.float .f64 B, .int .i8 a]) ∧ Turn (fun _ => False) wc w' := by
         rw [hB.out, ha.out]; exact hF
       replace F4 := Lib.hid F4
       replace i4 := Lib.hid i4
       clear hv ht hng)
    | (go_at_call 109
       ((with_reducible refine hF.mono ?_))
       rintro en wd' ⟨rfl, ht⟩
       have z0 := (ht.cell (p := ⟨wa.heap.size, 0, none⟩) (World.block_lt_of_cell? _ _ z0) id).trans z0
       have F5 := F4.out.more ht fun _ h => h.elim
       have i5 := i4.out.still ht
       have hOf := bOf_any B wd' hBn.out
       have x2 := F5.x2
       have xv := F5.v
       have hT := Lib.hid F5.turn
       clear ht F5)
    | (go_at_call 59; ((with_reducible refine hOf.mono ?_)); rintro en we ⟨rfl, rfl⟩))
  go_quiet (fail)
  go_wp2_with fail
  go_ret2
  exact ⟨rfl, hT.out.drewN _⟩
set_option maxRecDepth 100000 in
set_option maxHeartbeats 4000000 in
theorem to_169_1 (T : Nat → Bool → Nat) (hW : Way 169 T) (q : Nat) (oq : Option (Nat × Nat)) (m e : Int) (J : Nat) (w : World) (hI : It w q oq m) (hm : m ≠ 0) (hb : bl m.natAbs ≤ 60000) (he : -30000 ≤ e ∧ e ≤ 30000) (hJ : 0 ≤ e + 1074 + J)
    (B : Nat) (a : Int) (hB : B = fw (m.natAbs * 2 ^ (e + 1074 + J).toNat) J (decide (m < 0))) (ha : a = fa (m.natAbs * 2 ^ (e + 1074 + J).toNat) J (decide (m < 0))) (ha0 : a ≠ 0) :
    Calls Tryz.prog 77 #[.agg #[.pointer (some ⟨q, 0, none⟩), .int .i64 e, .bool false], .agg #[fnv 169]] w (ToR w (sg (T B (a == 1)) (decide (m < 0))) true) := by
  obtain ⟨F, hsz, x0, x1⟩ := TB.made w (.pointer (some ⟨q, 0, none⟩)) (.int .i64 e) 169
  have hI1 := hI.still F.turn
  have hSt := stuck_any q oq m e _ hI1 (by omega) (by omega)
  have hBn : NN B := by rw [hB]; exact fw_nn _ _ _
  have hbl2 : bl (m * 2).natAbs ≤ 60001 := by
    have : (m * 2).natAbs = m.natAbs * 2 := by omega
    rw [this]
    refine bl_le ?_
    have h1 := bl_lt (x := m.natAbs)
    have h2 : 2 ^ bl m.natAbs ≤ 2 ^ 60000 := Nat.pow_le_pow_right (by omega) hb
    have h3 : (2 : Nat) ^ (60000 + 1) = 2 ^ 60000 * 2 := Nat.pow_succ ..
    rw [show 60001 = 60000 + 1 from rfl, h3]
    generalize (2 : Nat) ^ 60000 = W at *
    omega
  have hmx : max (e - 1) (-4194304) = e - 1 := by omega
  have hmn : min (e - 1) 4194304 = e - 1 := by omega
  have hd : decide (a ≠ 0) = true := decide_eq_true ha0
  have hn1 : NN (T B (a == 1)) := hW.nn _ _ hBn
  obtain ⟨s, hs⟩ : ∃ s, s = sgn (m * 2) := ⟨_, rfl⟩
  have hsd : decide (s < 0) = decide (m < 0) := by
    rw [decide_eq_decide, hs]
    unfold sgn
    split <;> (try split) <;> omega
  replace hs := Lib.hid hs
  replace hsd := Lib.hid hsd
  replace hn1 := Lib.hid hn1
  replace hB := Lib.hid hB
  replace ha := Lib.hid ha
  replace F := Lib.hid F
  replace hsz := Lib.hid hsz
  replace hBn := Lib.hid hBn
  replace hW := Lib.hid hW
  have hI0 := Lib.hid hI
  clear hI hI1
  go_enter Tryz.func77, Tryz.ntmps77
  go_wp2_with (first
    | (go_at_call 106
       ((with_reducible refine hSt.mono ?_))
       rintro en wa ⟨q2, o2, rfl, g1, g2, g3⟩
       have F1 := F.out.more g3 fun _ h => h.elim
       have y0 := cell_made #[.pointer (some ⟨q2, 0, none⟩), .int .i64 (e - 1), .bool false] 115 wa 0
       have y1 := cell_made #[.pointer (some ⟨q2, 0, none⟩), .int .i64 (e - 1), .bool false] 115 wa 1
       have s4 := size_alloc wa (.cells #[.pointer (some ⟨q2, 0, none⟩), .int .i64 (e - 1), .bool false] 115)
       have t4 := (Turn.refl (fun _ => False) wa).alloc (.cells #[.pointer (some ⟨q2, 0, none⟩), .int .i64 (e - 1), .bool false] 115)
       generalize hw4 : wa.alloc (.cells #[.pointer (some ⟨q2, 0, none⟩), .int .i64 (e - 1), .bool false] 115) = w4 at y0 y1 s4 t4
       have hfl := Fl.made w4 0 0 rfl
       have s5 := size_alloc w4 (.cells #[.int .u32 0, .int .u8 0, .int .i8 0, .int .u8 0, .bool false, .slice none 0 0, .int .i32 0] 159)
       have t5 := (Turn.refl (fun _ => False) w4).alloc (.cells #[.int .u32 0, .int .u8 0, .int .i8 0, .int .u8 0, .bool false, .slice none 0 0, .int .i32 0] 159)
       rw [s4] at hfl
       have hlq : ∀ k, IB q2 o2 k → k < wa.heap.size := fun k hk => g1.lt hk
       have hSI := SetInt_some (p := wa.heap.size + 1) q2 o2 (m * 2) _ hfl (g1.still (t4.trans' t5)) (fun hk => by have := hlq _ hk; omega) (by omega) (by omega)
       have z0 := (t5.cell (p := ⟨wa.heap.size, 0, none⟩) (by show wa.heap.size < _; omega) id).trans y0
       have z1 := (t5.cell (p := ⟨wa.heap.size, 1, none⟩) (by show wa.heap.size < _; omega) id).trans y1
       have F2 := (F1.more t4 fun _ h => h.elim).more t5 fun _ h => h.elim
       have i2 := g1.still (t4.trans' t5)
       have hz1 := F1.sz
       rw [s4] at s5
       rw [← hw4] at hSI z0 z1 F2 i2 s5
       have s6 := s5.symm
       replace F2 := Lib.hid F2
       replace i2 := Lib.hid i2
       replace s6 := Lib.hid s6
       replace g2 := Lib.hid g2
       replace hlq := Lib.hid hlq
       replace hz1 := Lib.hid hz1
       clear F1 g1 g3 y0 y1 s4 t4 hfl s5 t5 hw4)
    | (go_at_call 107
       ((with_reducible refine hSI.mono ?_))
       rintro en wb ⟨rfl, ⟨b, c, n, g, hv, hbn⟩, ht⟩
       have hbn2 : wa.heap.size + 1 + 1 ≤ b := by rw [s6.out]; exact hbn
       have hs7 : wa.heap.size + 1 + 1 ≤ wb.heap.size := by rw [s6.out]; exact ht.size
       have z0 := (ht.cell (p := ⟨wa.heap.size, 0, none⟩) (World.block_lt_of_cell? _ _ z0) (by show ¬ wa.heap.size = wa.heap.size + 1; omega)).trans z0
       have z1 := (ht.cell (p := ⟨wa.heap.size, 1, none⟩) (World.block_lt_of_cell? _ _ z1) (by show ¬ wa.heap.size = wa.heap.size + 1; omega)).trans z1
       have F3 := F2.out.more ht fun k hk => by have := hz1.out; omega
       have i3 := i2.out.turn ht fun k hk hh => by have := hlq.out k hk; omega
       have hSM := SetMantExp_some (e - 1) wb hv (by omega) (by omega) (by omega)
       replace F3 := Lib.hid F3
       replace i3 := Lib.hid i3
       clear hv hbn ht)
    | (go_at_call 108
       ((with_reducible refine hSM.mono ?_))
       rintro en wc ⟨rfl, ⟨g', hv⟩, ht⟩
       have z0 := (ht.cell (p := ⟨wa.heap.size, 0, none⟩) (by show wa.heap.size < _; omega) (by show ¬ (wa.heap.size = wa.heap.size + 1 ∨ wa.heap.size = b); omega)).trans z0
       have F4 := F3.out.more ht fun k hk => by have := hz1.out; omega
       have i4 := i3.out.turn ht fun k hk hh => by have := hlq.out k hk; omega
       have hF := f64_some wc hv.fl hv.n1 (by have := hv.hi; omega) hv.top (by omega) (by have := hv.lo; omega) (Mq.twice hm hv.val hv.lo hJ)
       have hng : decide (m * 2 < 0) = decide (m < 0) := by rw [decide_eq_decide]; omega
       rw [hng] at hF
       have hF : Calls Tryz.prog 109 #[.pointer (some ⟨wa.heap.size + 1, 0, none⟩)] wc fun en w' => en = .returned (.tuple #[.float .f64 B, .int .i8 a]) ∧ Turn (fun _ => False) wc w' := by
         rw [hB.out, ha.out]; exact hF
       replace F4 := Lib.hid F4
       replace i4 := Lib.hid i4
       clear hv ht hng)
    | (go_at_call 109
       ((with_reducible refine hF.mono ?_))
       rintro en wd' ⟨rfl, ht⟩
       have z0 := (ht.cell (p := ⟨wa.heap.size, 0, none⟩) (World.block_lt_of_cell? _ _ z0) id).trans z0
       have F5 := F4.out.more ht fun _ h => h.elim
       have i5 := i4.out.still ht
       have hOf := bOf_any B wd' hBn.out
       have x2 := F5.x2
       have xv := F5.v
       have hT := Lib.hid F5.turn
       clear ht F5)
    | (go_at_call 59; ((with_reducible refine hOf.mono ?_)); rintro en we ⟨rfl, rfl⟩))
  have hSg := fun N => Sign_any q2 o2 (m * 2) _ (i5.drewN N)
  rw [← hs.out] at hSg
  have hTc := fun ng ab w => hW.out.call B ng ab w hBn.out
  have hSd := fun b w => signed_sg (T B (a == 1)) b w hn1.out
  go_quiet (first
    | (go_at_call 64; exact quiet_same (hSg _))
    | (go_at_call 169; exact quiet_same (hTc _ _ _)))
  go_wp2_with (first
    | (go_at_call 64; ((with_reducible refine (hSg _).mono ?_)); rintro en wf ⟨rfl, rfl⟩)
    | (go_at_call 112; ((with_reducible refine (hSd _ _).mono ?_)); rintro en wf ⟨rfl, rfl⟩))
  rw [hsd.out]
  go_quiet (fail)
  go_wp2_with fail
  go_ret2
  exact ⟨rfl, (hT.out.drewN _).drewN _⟩
set_option maxRecDepth 100000 in
set_option maxHeartbeats 4000000 in
theorem to_169_z (q : Nat) (oq : Option (Nat × Nat)) (e : Int) (w : World) (hI : It w q oq 0) (he : -2000000 ≤ e ∧ e ≤ 2000000) :
    Calls Tryz.prog 77 #[.agg #[.pointer (some ⟨q, 0, none⟩), .int .i64 e, .bool false], .agg #[fnv 169]] w (ToR w 0 false) := by
  obtain ⟨F, hsz, x0, x1⟩ := TB.made w (.pointer (some ⟨q, 0, none⟩)) (.int .i64 e) 169
  have hI1 := hI.still F.turn
  have hSt := stuck_any q oq 0 e _ hI1 (by decide) (by omega)
  rw [Int.zero_mul] at hSt
  have hmx : max (e - 1) (-4194304) = e - 1 := by omega
  have hmn : min (e - 1) 4194304 = e - 1 := by omega
  replace F := Lib.hid F
  replace hsz := Lib.hid hsz
  have hI0 := Lib.hid hI
  clear hI hI1
  go_enter Tryz.func77, Tryz.ntmps77
  go_wp2_with (first
    | (go_at_call 106
       ((with_reducible refine hSt.mono ?_))
       rintro en wa ⟨q2, o2, rfl, g1, g2, g3⟩
       have F1 := F.out.more g3 fun _ h => h.elim
       have y0 := cell_made #[.pointer (some ⟨q2, 0, none⟩), .int .i64 (e - 1), .bool false] 115 wa 0
       have y1 := cell_made #[.pointer (some ⟨q2, 0, none⟩), .int .i64 (e - 1), .bool false] 115 wa 1
       have s4 := size_alloc wa (.cells #[.pointer (some ⟨q2, 0, none⟩), .int .i64 (e - 1), .bool false] 115)
       have t4 := (Turn.refl (fun _ => False) wa).alloc (.cells #[.pointer (some ⟨q2, 0, none⟩), .int .i64 (e - 1), .bool false] 115)
       generalize hw4 : wa.alloc (.cells #[.pointer (some ⟨q2, 0, none⟩), .int .i64 (e - 1), .bool false] 115) = w4 at y0 y1 s4 t4
       have hfl := Fl.made w4 0 0 rfl
       have s5 := size_alloc w4 (.cells #[.int .u32 0, .int .u8 0, .int .i8 0, .int .u8 0, .bool false, .slice none 0 0, .int .i32 0] 159)
       have t5 := (Turn.refl (fun _ => False) w4).alloc (.cells #[.int .u32 0, .int .u8 0, .int .i8 0, .int .u8 0, .bool false, .slice none 0 0, .int .i32 0] 159)
       rw [s4] at hfl
       have hlq : ∀ k, IB q2 o2 k → k < wa.heap.size := fun k hk => g1.lt hk
       have hSI := SetInt_zero (p := wa.heap.size + 1) q2 o2 _ hfl (g1.still (t4.trans' t5)) (fun hk => by have := hlq _ hk; omega)
       have z0 := (t5.cell (p := ⟨wa.heap.size, 0, none⟩) (by show wa.heap.size < _; omega) id).trans y0
       have z1 := (t5.cell (p := ⟨wa.heap.size, 1, none⟩) (by show wa.heap.size < _; omega) id).trans y1
       have F2 := (F1.more t4 fun _ h => h.elim).more t5 fun _ h => h.elim
       have i2 := g1.still (t4.trans' t5)
       have hz1 := F1.sz
       rw [s4] at s5
       rw [← hw4] at hSI z0 z1 F2 i2 s5
       have s6 := s5.symm
       replace F2 := Lib.hid F2
       replace i2 := Lib.hid i2
       replace s6 := Lib.hid s6
       replace g2 := Lib.hid g2
       replace hlq := Lib.hid hlq
       replace hz1 := Lib.hid hz1
       clear F1 g1 g3 y0 y1 s4 t4 hfl s5 t5 hw4)
    | (go_at_call 107
       ((with_reducible refine hSI.mono ?_))
       rintro en wb ⟨rfl, hv, ht⟩
       have hs7 : wa.heap.size + 1 + 1 ≤ wb.heap.size := by rw [s6.out]; exact ht.size
       have z0 := (ht.cell (p := ⟨wa.heap.size, 0, none⟩) (World.block_lt_of_cell? _ _ z0) (by show ¬ wa.heap.size = wa.heap.size + 1; omega)).trans z0
       have z1 := (ht.cell (p := ⟨wa.heap.size, 1, none⟩) (World.block_lt_of_cell? _ _ z1) (by show ¬ wa.heap.size = wa.heap.size + 1; omega)).trans z1
       have F3 := F2.out.more ht fun k hk => by have := hz1.out; omega
       have i3 := i2.out.turn ht fun k hk hh => by have := hlq.out k hk; omega
       have hSM := SetMantExp_zero (wa.heap.size + 1) (e - 1) wb hv
       have hF := f64_zero wb hv
       replace F3 := Lib.hid F3
       replace i3 := Lib.hid i3
       clear hv ht)
    | (go_at_call 108; ((with_reducible refine hSM.mono ?_)); rintro en wc ⟨rfl, rfl⟩)
    | (go_at_call 109
       ((with_reducible refine hF.mono ?_))
       rintro en wd' ⟨rfl, rfl⟩
       have hOf := bOf_any 0 wb nought_f.1
       have hOf : Calls Tryz.prog 59 #[.float .f64 0] wb fun e w' => e = .returned (.int .i64 (iw 0)) ∧ wb = w' := hOf
       have x2 := F3.out.x2
       have hT := Lib.hid F3.out.turn)
    | (go_at_call 59; ((with_reducible refine hOf.mono ?_)); rintro en we ⟨rfl, rfl⟩))
  go_quiet (fail)
  go_wp2_with fail
  go_ret2
  exact ⟨rfl, hT.out.drewN _⟩
theorem to_way (k : FuncId) (T : Nat → Bool → Nat) (hk : k = 167 ∨ k = 168 ∨ k = 169) (hW : Way k T) (q : Nat) (oq : Option (Nat × Nat)) (m e : Int) (J : Nat) (w : World) (hI : It w q oq m) (hm : m ≠ 0) (hb : bl m.natAbs ≤ 60000) (he : -30000 ≤ e ∧ e ≤ 30000) (hJ : 0 ≤ e + 1074 + J) :
    ∃ x, Calls Tryz.prog 77 #[.agg #[.pointer (some ⟨q, 0, none⟩), .int .i64 e, .bool false], .agg #[fnv k]] w
      (ToR w (tw T (fw (m.natAbs * 2 ^ (e + 1074 + J).toNat) J (decide (m < 0))) (fa (m.natAbs * 2 ^ (e + 1074 + J).toNat) J (decide (m < 0))) (decide (m < 0))) x) := by
  obtain ⟨B, hB⟩ : ∃ B, B = fw (m.natAbs * 2 ^ (e + 1074 + J).toNat) J (decide (m < 0)) := ⟨_, rfl⟩
  obtain ⟨a, ha⟩ : ∃ a, a = fa (m.natAbs * 2 ^ (e + 1074 + J).toNat) J (decide (m < 0)) := ⟨_, rfl⟩
  rw [← hB, ← ha]
  by_cases h0 : a = 0
  · refine ⟨false, ?_⟩
    have e : tw T B a (decide (m < 0)) = B := by unfold tw; rw [if_pos h0]
    rw [e]
    rcases hk with rfl | rfl | rfl
    · exact to_167_0 T hW q oq m _ J w hI hm hb he hJ B a hB ha h0
    · exact to_168_0 T hW q oq m _ J w hI hm hb he hJ B a hB ha h0
    · exact to_169_0 T hW q oq m _ J w hI hm hb he hJ B a hB ha h0
  · refine ⟨true, ?_⟩
    have e : tw T B a (decide (m < 0)) = sg (T B (a == 1)) (decide (m < 0)) := by unfold tw; rw [if_neg h0]; rfl
    rw [e]
    rcases hk with rfl | rfl | rfl
    · exact to_167_1 T hW q oq m _ J w hI hm hb he hJ B a hB ha h0
    · exact to_168_1 T hW q oq m _ J w hI hm hb he hJ B a hB ha h0
    · exact to_169_1 T hW q oq m _ J w hI hm hb he hJ B a hB ha h0
end
end Go.Proofs.YtllapbkoildfiaaGreatFmt
