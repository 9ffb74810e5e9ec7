/- Int's mul of a nought; Mul · The walk of NewInt; new Ints · Int's Or (of a number and a few low bits) · Int's And (of a number and the mask of 30 bits), into a new one · dyadic.whole: the number of digits · nat.Valid, dyadic.Valid of what is valid. -/
import Derived.Test.YtllapbkoildfiaaGreatFmtM16
set_option linter.all false
namespace Go.Proofs.YtllapbkoildfiaaGreatFmt
section
open Go.RowKit
theorem wpStill_skip {P : Program} {ops : Array Oper} {w : World} {Q : Act → Prop} {o : Oper} {rest : List Oper} {a : Act} (h : Region.wanted o (yielded ops a.tmps) = false) (h2 : a.put o.dst undef = a) (k : wpStill P ops w Q rest a) : wpStill P ops w Q (o :: rest) a := by
  unfold wpStill; rw [h, h2]; exact k
attribute [local irreducible] wpStill in
set_option maxRecDepth 100000 in
set_option maxHeartbeats 8000000 in
theorem mul_0 (zp xp : Nat) (xo : Option (Nat × Nat)) (x : Int) (yp : Nat) (yo : Option (Nat × Nat)) (y s : Int) (w : World) (hz : It w zp none 0) (hx : It w xp xo x) (hy : It w yp yo y) (hxz : zp ≠ xp) (hyz : zp ≠ yp) (hxy : xp ≠ yp) (h40 : bl x.natAbs ≤ 2496 ∨ bl y.natAbs ≤ 2496) (hbx : bl x.natAbs ≤ 6000000) (hby : bl y.natAbs ≤ 6000000) (hk : w.cell? ⟨5, 0, none⟩ = some (.int .i64 40))
    (bx bye : Bool) (b1 : decide (x < 0) = bx) (b2 : decide (y < 0) = bye) (v : Nat) (hv : v = x.natAbs * y.natAbs) (hv0 : v = 0) (hs : v = s.natAbs) (hb : (false) = decide (s < 0)) :
    Calls Tryz.prog 163 #[.pointer (some ⟨zp, 0, none⟩), .pointer none, .pointer (some ⟨xp, 0, none⟩), .pointer (some ⟨yp, 0, none⟩)] w fun e w' => e = .returned (.tuple #[]) ∧ ∃ o, It w' zp o s ∧ Own w none o ∧ Turn (IB zp none) w w' := by
  obtain ⟨m, f, hx1, hx2, hx3, cx1⟩ := hx.wd
  obtain ⟨n, g, hy1, hy2, hy3, cy1⟩ := hy.wd
  obtain ⟨nz, fz, hz1, hz2, hz3, cz1⟩ := hz.wd
  have hnz : nz = 0 := hz1
  subst hnz
  change w.cell? ⟨zp, 1, none⟩ = some (.slice none 0 0) at cz1
  have hm : m ≤ 100000 := len_of_bl hx2 hx1.bd (by rw [hx3]; omega)
  have hn : n ≤ 100000 := len_of_bl hy2 hy1.bd (by rw [hy3]; omega)
  have h4 : m < 40 ∨ n < 40 := by
    rcases h40 with h | h
    · exact .inl (Nat.lt_of_le_of_lt (len_of_bl (B := 39) hx2 hx1.bd (by rw [hx3]; omega)) (by omega))
    · exact .inr (Nat.lt_of_le_of_lt (len_of_bl (B := 39) hy2 hy1.bd (by rw [hy3]; omega)) (by omega))
  have hA := nmul_any xo yo m n f g w.drew (by rcases xo with _ | ⟨b, c⟩ <;> exact hx1) (by rcases yo with _ | ⟨b, c⟩ <;> exact hy1) h4 hm hn hx2 hy2 hk
  rw [hx3, hy3, ← hv] at hA
  have cz0 := hz.c0
  have fz0 := hz.f0
  have fz1 := hz.f1
  have cx0 := hx.c0
  have cy0 := hy.c0
  rw [b1] at cx0
  rw [b2] at cy0
  have hpz := hz.pl.lt
  have hpx := hx.pl.lt
  have hpy := hy.pl.lt
  have hap := hz.ap
  have hne := ptr_eql_other 95 128 (by kernel_rfl) (by kernel_rfl) (a := ⟨xp, 0, none⟩) (b := ⟨yp, 0, none⟩) w hxy hx.pl hy.pl
  obtain ⟨xa, xl, xc, ex⟩ := nv_slice xo m
  obtain ⟨ya, yl, yc, ey⟩ := nv_slice yo n
  rw [ex] at cx1
  rw [ey] at cy1
  rw [ex, ey] at hA
  clear ex ey
  replace hz := Lib.hid hz
  replace hs := Lib.hid hs
  replace hb := Lib.hid hb
  replace hv0 := Lib.hid hv0
  replace hxy := Lib.hid hxy
  clear hx hy hz1 hz2 hz3 hx1 hx2 hx3 hy1 hy2 hy3 hv b1 b2 hbx hby h40 h4 hk
  go_enter Tryz.func163, Tryz.ntmps163
  go_wp2_with fail
  go_region_law ((go_simp; go_at_call 193; ((with_reducible refine hA.mono ?_)); rintro e wa ⟨o, k, g, rfl, hr1, hr2, hr3, hr4, hr5⟩
                  have t5 : Turn (InB none) w wa := ⟨hr5.os, hr5.tape, hr5.output, hr5.size, hr5.block⟩
                  obtain rfl := nv_zero hr1 hr3 hr2 hv0.out
                  obtain ⟨sa, sc, env⟩ := hr1.slice
                  have d0 := (t5.cell (p := ⟨zp, 0, none⟩) hpz hap).trans cz0
                  have d1 := (t5.cell (p := ⟨zp, 1, none⟩) hpz hap).trans cz1
                  have e0 := (t5.frozen (p := ⟨zp, 0, none⟩) hpz hap).trans fz0
                  have e1 := (t5.frozen (p := ⟨zp, 1, none⟩) hpz hap).trans fz1
                  have d2 := (t5.cell (p := ⟨xp, 0, none⟩) hpx (fun g => nomatch g.choose_spec)).trans cx0
                  have d3 := (t5.cell (p := ⟨yp, 0, none⟩) hpy (fun g => nomatch g.choose_spec)).trans cy0
                  have hst := Lib.hid (hz.out.store hr1 hr3 hr4 t5 (v := s) (b := (false)) (by rw [hr2]; exact hs.out) hb.out)
                  rw [env] at hst ⊢
                  replace env := Lib.hid env
                  have hr4 := Lib.hid hr4
                  clear hr1 hr2 hr3 hr5 t5))
  all_goals go_wp2_with fail
  all_goals
    have f1 := World.cell?_setCell_same wa ⟨zp, 1, none⟩ (.slice sa 0 sc) d1
    have f0 := (World.frozen?_setCell wa ⟨zp, 1, none⟩ ⟨zp, 0, none⟩ (.slice sa 0 sc)).trans e0
    have f2 := (World.cell?_setCell_other wa ⟨zp, 1, none⟩ ⟨xp, 0, none⟩ (.slice sa 0 sc) (by intro e; simp at e)).trans d2
    have f3 := (World.cell?_setCell_other wa ⟨zp, 1, none⟩ ⟨yp, 0, none⟩ (.slice sa 0 sc) (by intro e; simp at e)).trans d3
    have f4 := (World.cell?_setCell_other wa ⟨zp, 1, none⟩ ⟨zp, 0, none⟩ (.slice sa 0 sc) (by intro e; simp at e)).trans d0
    clear d0 d1 d2 d3 e0 e1
    generalize wa.setCell ⟨zp, 1, none⟩ (.slice sa 0 sc) = wb at *
    clear hA hne cz1 hm hn cz0 fz0 fz1 cx0 cy0 hpz hpx hpy hap cx1 cy1

    refine wp_region_still_tail 18 (by kernel_rfl) (by kernel_rfl) ?_
    simp only [List.take_succ_cons, List.take_zero, List.drop_succ_cons, List.drop_zero]
    iterate 7 still_step
    (refine wpStill_step (fun K hK => ?_); replace hK := Lib.hid hK; go_simp; refine hK.out _ ?_; clear hK K)
    iterate 9 (refine wpStill_skip (by kernel_rfl) (by kernel_rfl) ?_)
    still_step
    refine wpStill_nil ?_
    change wpList _ _ _ _ _ wb.drew
    go_wp2_with fail
    refine bodyPost_end (results_none rfl _ _ _) rfl ?_
    exact ⟨rfl, o, hst.out.1.drew, hr4.out, hst.out.2.drew⟩
theorem Mul_new (zp xp : Nat) (xo : Option (Nat × Nat)) (x : Int) (yp : Nat) (yo : Option (Nat × Nat)) (y : Int) (w : World) (hz : It w zp none 0) (hx : It w xp xo x) (hy : It w yp yo y) (hxz : zp ≠ xp) (hyz : zp ≠ yp) (hxy : xp ≠ yp) (h40 : bl x.natAbs ≤ 2496 ∨ bl y.natAbs ≤ 2496) (hbx : bl x.natAbs ≤ 6000000) (hby : bl y.natAbs ≤ 6000000) (hk : w.cell? ⟨5, 0, none⟩ = some (.int .i64 40)) :
    Calls Tryz.prog 135 #[.pointer (some ⟨zp, 0, none⟩), .pointer (some ⟨xp, 0, none⟩), .pointer (some ⟨yp, 0, none⟩)] w (IRes w zp none (x * y)) := by
  have hA : Calls Tryz.prog 163 #[.pointer (some ⟨zp, 0, none⟩), .pointer none, .pointer (some ⟨xp, 0, none⟩), .pointer (some ⟨yp, 0, none⟩)] w fun e w' => e = .returned (.tuple #[]) ∧ ∃ o, It w' zp o (x * y) ∧ Own w none o ∧ Turn (IB zp none) w w' := by
    have hab : x.natAbs * y.natAbs = (x * y).natAbs := (Int.natAbs_mul x y).symm
    by_cases h0 : x.natAbs * y.natAbs = 0
    · refine mul_0 zp xp xo x yp yo y (x * y) w hz hx hy hxz hyz hxy h40 hbx hby hk _ _ rfl rfl _ rfl h0 hab ?_
      have : x * y = 0 := by omega
      rw [this]; exact (decide_eq_false (by omega)).symm
    · refine mul_P zp xp xo x yp yo y (x * y) w hz hx hy hxz hyz hxy h40 hbx hby hk _ _ rfl rfl _ rfl h0 hab ?_
      have hx0 : x ≠ 0 := fun e => h0 (by rw [e]; exact Nat.zero_mul _)
      have hy0 : y ≠ 0 := fun e => h0 (by rw [e]; exact Nat.mul_zero _)
      by_cases gx : x < 0 <;> by_cases gy : y < 0
      · have := Int.mul_pos_of_neg_of_neg gx gy
        rw [decide_eq_true gx, decide_eq_true gy, decide_eq_false (by omega)]; rfl
      · have := Int.mul_neg_of_neg_of_pos gx (show 0 < y by omega)
        rw [decide_eq_true gx, decide_eq_false gy, decide_eq_true (by omega)]; rfl
      · have := Int.mul_neg_of_pos_of_neg (show 0 < x by omega) gy
        rw [decide_eq_false gx, decide_eq_true gy, decide_eq_true (by omega)]; rfl
      · have := Int.mul_pos (show 0 < x by omega) (show 0 < y by omega)
        rw [decide_eq_false gx, decide_eq_false gy, decide_eq_false (by omega)]; rfl
  clear hz hx hy hxz hyz hxy h40 hbx hby hk
  go_enter Tryz.func135, Tryz.ntmps135
  go_wp2_with (go_at_call 163; ((with_reducible refine hA.mono ?_)); rintro e wa ⟨rfl, o, h1, h2, h3⟩; have h1 := Lib.hid h1; have h2 := Lib.hid h2; have h3 := Lib.hid h3)
  go_ret
  exact ⟨rfl, o, h1.out, h2.out, h3.out⟩
end
section
open Go.RowKit
theorem cell_made (cur : Array Value) (t : TypeId) (w : World) (i : Nat) : (w.alloc (.cells cur t)).cell? ⟨w.heap.size, i, none⟩ = cur[i]? := by
  show (match (w.heap.push (Obj.cells cur t))[w.heap.size]? with | some (.cells c _ _) => if (none : Option _).isSome then none else c[i]? | _ => none) = _
  rw [Array.getElem?_push_size]
  rfl
theorem frozen_made (cur : Array Value) (t : TypeId) (w : World) (i : Nat) : (w.alloc (.cells cur t)).frozen? ⟨w.heap.size, i, none⟩ = false := by
  show (match (w.heap.push (Obj.cells cur t))[w.heap.size]? with | some (.cells _ _ (lo, hi)) => decide (lo ≤ i) && decide (i < hi) | _ => false) = _
  rw [Array.getElem?_push_size]
  simp
def New (w : World) (p : Nat) (o : Option (Nat × Nat)) : Prop := ∀ k, IB p o k → w.heap.size ≤ k
def NewRes (w : World) (x : Int) (e : Ending) (w' : World) : Prop := ∃ p o, e = .returned (.pointer (some ⟨p, 0, none⟩)) ∧ It w' p o x ∧ New w p o ∧ Turn (fun _ => False) w w'
theorem It.made (w : World) : It (w.alloc (.cells #[.bool false, .slice none 0 0] 128)) w.heap.size none 0 :=
  ⟨Plain.made _ _, cell_made _ _ _ 0, frozen_made _ _ _ 0, frozen_made _ _ _ 1, (fun g => nomatch g.choose_spec), 0, fun _ => 0, rfl, .inl rfl, rfl, cell_made _ _ _ 1⟩
theorem size_alloc (w : World) (o : Obj) : (w.alloc o).heap.size = w.heap.size + 1 := by simp
theorem It.word (w : World) (u : Nat) (hu : u < 18446744073709551616) (h0 : u ≠ 0) (x : Int) (hx : x.natAbs = u) :
    It ((w.alloc (.cells #[.int .u64 (u : Nat)] 195)).alloc (.cells #[.bool (decide (x < 0)), .slice (some ⟨w.heap.size, 0, none⟩) 1 1] 128)) (w.heap.size + 1) (some (w.heap.size, 1)) x := by
  rw [← size_alloc w (.cells #[.int .u64 (u : Nat)] 195)]
  have t := (Turn.refl (fun _ => False) (w.alloc (.cells #[.int .u64 (u : Nat)] 195))).alloc (.cells #[.bool (decide (x < 0)), .slice (some ⟨w.heap.size, 0, none⟩) 1 1] 128)
  have hl : w.heap.size < (w.alloc (.cells #[.int .u64 (u : Nat)] 195)).heap.size := by rw [size_alloc]; omega
  refine ⟨Plain.made _ _, cell_made _ _ _ 0, frozen_made _ _ _ 0, frozen_made _ _ _ 1, ?_, 1, fun _ => u, ⟨Nat.le_refl _, by omega, Nat.le_refl _, ?_, (Plain.made _ _).turn t id⟩, .inr h0, by simp [vl, hx], cell_made _ _ _ 1⟩
  · rintro ⟨c, e⟩
    have := (Prod.mk.inj (Option.some.inj e)).1
    omega
  · intro i hi
    obtain rfl : i = 0 := by omega
    exact ⟨(t.cell (p := ⟨w.heap.size, 0 + 0, none⟩) hl id).trans (cell_made _ _ _ 0), (t.frozen (p := ⟨w.heap.size, 0 + 0, none⟩) hl id).trans (frozen_made _ _ _ 0), hu⟩
theorem NewInt_some (x : Int) (u : Nat) (hx : x.natAbs = u) (hu : u < 9223372036854775808) (h0 : u ≠ 0) (w : World) :
    Calls Tryz.prog 126 #[.int .i64 x] w (NewRes w x) := by
  have hI := It.word w u (by omega) h0 x hx
  have hN : New w (w.heap.size + 1) (some (w.heap.size, 1)) := by
    rintro k (rfl | ⟨c, e⟩)
    · omega
    · have := (Prod.mk.inj (Option.some.inj e)).1
      omega
  have hT : Turn (fun _ => False) w ((w.alloc (.cells #[.int .u64 (u : Nat)] 195)).alloc (.cells #[.bool (decide (x < 0)), .slice (some ⟨w.heap.size, 0, none⟩) 1 1] 128)) := ((Turn.refl _ w).alloc _).alloc _
  replace hI := Lib.hid hI
  replace hN := Lib.hid hN
  replace hT := Lib.hid hT
  have b0 : (x == 0) = false := by
    cases g : (x == 0) with
    | false => rfl
    | true => have : x = 0 := by simpa using g
              omega
  by_cases g : x < 0
  · have w1 : IntKind.wrap .u64 x = 18446744073709551616 - (u : Int) := by rw [IntKind.wrap_u64]; omega
    have w2 : IntKind.wrap .u64 (-(18446744073709551616 - (u : Int))) = u := by rw [IntKind.wrap_u64]; omega
    have w3 : IntKind.wrap .u64 ((u : Int) - 18446744073709551616) = u := by rw [IntKind.wrap_u64]; omega
    go_enter Tryz.func126, Tryz.ntmps126
    go_wp2_with fail
    go_ret
    have hI := hI.out
    have hT := hT.out
    rw [decide_eq_true g] at hI hT
    exact ⟨_, _, rfl, hI, hN.out, hT⟩
  · obtain rfl : x = (u : Int) := by omega
    have w1 : IntKind.wrap .u64 (u : Int) = u := by rw [IntKind.wrap_u64]; omega
    go_enter Tryz.func126, Tryz.ntmps126
    go_wp2_with fail
    go_ret
    exact ⟨_, _, rfl, hI.out, hN.out, hT.out⟩
theorem NewInt_zero (w : World) : Calls Tryz.prog 126 #[.int .i64 0] w (NewRes w 0) := by
  have hI := Lib.hid (It.made w)
  go_enter Tryz.func126, Tryz.ntmps126
  go_wp2_with fail
  go_ret
  exact ⟨w.heap.size, none, rfl, hI.out, fun k g => g.elim (fun e => Nat.le_of_eq e.symm) (fun e => nomatch e.choose_spec), (Turn.refl (fun _ => False) w).alloc _⟩
theorem NewInt_any (x : Int) (hx : x.natAbs < 9223372036854775808) (w : World) : Calls Tryz.prog 126 #[.int .i64 x] w (NewRes w x) := by
  by_cases h : x.natAbs = 0
  · obtain rfl : x = 0 := by omega
    exact NewInt_zero w
  · exact NewInt_some x x.natAbs rfl hx h w
end
section
open Go.RowKit
theorem vl_mod30 {x : Nat → Nat} {m : Nat} (hm : 1 ≤ m) : vl x m % 1073741824 = x 0 % 1073741824 := by
  rw [vl_head x m hm]; omega
theorem nor_any (xo yo : Option (Nat × Nat)) (m n d : Nat) (x y : Nat → Nat) (w : World) (hx : Nt w xo m x) (hy : Nt w yo n y) (hx0 : Nrm x m) (hy0 : Nrm y n) (hm : m ≤ 100000) (hp : vl x m % 1073741824 = 0) (hd : vl y n = d) (hd2 : d < 1073741824) :
    Calls Tryz.prog 156 #[nv xo m, nv xo m, nv yo n] w (NRes w xo (vl x m + d)) := by
  have hn : n ≤ 1 := len_of_bl hy0 hy.bd (by rw [hd]; exact Nat.le_trans (bl_le (k := 64) (by omega)) (by omega))
  rcases Nat.eq_zero_or_pos n with rfl | hn1
  · have : d = 0 := hd.symm
    subst this
    obtain ⟨ya, yc, ey⟩ := hy.slice
    rw [ey]
    rcases xo with _ | ⟨xb, xc⟩
    · have : m = 0 := hx
      subst this
      refine (or_nil ya yc w).mono ?_
      rintro e w' ⟨rfl, rfl⟩
      exact NRes.drewN (k := 0) ⟨none, 0, x, rfl, rfl, rfl, .inl rfl, Own.self _ _, (Turn.refl _ w).drew⟩
    · exact or_zero xb xc m x ya yc w hx hx0 hm
  · obtain rfl : n = 1 := by omega
    obtain ⟨yb, yc, rfl⟩ := hy.some hn1
    have hyd : y 0 = d := by rw [← hd]; simp [vl]
    have hyw : Wd w yb 0 1 y := fun i hi => hy.2.2.2.1 i (by have := hy.1; omega)
    rcases Nat.eq_zero_or_pos m with rfl | hm1
    · have e : vl x 0 + d = d := by show 0 + d = d; omega
      rw [e]
      exact or_into xo x yb yc d y w hx (by have := hy.1; omega) hyw hyd
    · obtain ⟨xb, xc, rfl⟩ := hx.some hm1
      exact or_put xb xc m yb yc d x y w hx hm1 hm hx0 hyw hyd (by rw [← vl_mod30 hm1]; exact hp) hd2
set_option maxRecDepth 100000 in
set_option maxHeartbeats 2000000 in
theorem Or_low (xp : Nat) (xo : Option (Nat × Nat)) (x : Nat) (yp : Nat) (yo : Option (Nat × Nat)) (d : Nat) (w : World) (hx : It w xp xo (x : Nat)) (hy : It w yp yo (d : Nat)) (hb : bl x ≤ 6000000) (hp : x % 1073741824 = 0) (hd : d < 1073741824) :
    Calls Tryz.prog 125 #[.pointer (some ⟨xp, 0, none⟩), .pointer (some ⟨xp, 0, none⟩), .pointer (some ⟨yp, 0, none⟩)] w (IRes w xp xo ((x + d : Nat) : Int)) := by
  obtain ⟨m, f, hx1, hx2, hx3, cx1⟩ := hx.wd
  obtain ⟨n, g, hy1, hy2, hy3, cy1⟩ := hy.wd
  rw [Int.natAbs_natCast] at hx3 hy3
  have hm : m ≤ 100000 := len_of_bl hx2 hx1.bd (by rw [hx3]; omega)
  have hA := fun q => nor_any xo yo m n d f g (w.drewN q) (by rcases xo with _ | ⟨b, c⟩ <;> exact hx1) (by rcases yo with _ | ⟨b, c⟩ <;> exact hy1) hx2 hy2 hm (by rw [hx3]; exact hp) hy3 hd
  simp only [hx3] at hA
  have cx0 := hx.c0
  have fx0 := hx.f0
  have fx1 := hx.f1
  have cy0 := hy.c0
  rw [decide_eq_false (show ¬ ((x : Nat) : Int) < 0 by omega)] at cx0
  rw [decide_eq_false (show ¬ ((d : Nat) : Int) < 0 by omega)] at cy0
  have hpx := hx.pl.lt
  have hap := hx.ap
  obtain ⟨xa, xl, xc, ex⟩ := nv_slice xo m
  obtain ⟨ya, yl, yc, ey⟩ := nv_slice yo n
  rw [ex] at cx1
  rw [ey] at cy1
  simp only [ex, ey] at hA
  clear ex ey
  replace hx := Lib.hid hx
  clear hy hx1 hx2 hx3 hy1 hy2 hy3 hb hp hd
  go_enter Tryz.func125, Tryz.ntmps125
  go_wp2_with fail
  go_quiet (fail)
  go_wp2_with fail
  go_region_law ((go_simp; go_at_call 156; ((with_reducible refine (hA _).mono ?_)); rintro e wa ⟨o, k, g, rfl, hr1, hr2, hr3, hr4, hr5⟩
                  have t5 : Turn (InB xo) w wa := ⟨hr5.os, hr5.tape, hr5.output, hr5.size, hr5.block⟩
                  obtain ⟨sa, sc, env⟩ := hr1.slice
                  have d0 := (t5.cell (p := ⟨xp, 0, none⟩) hpx hap).trans cx0
                  have d1 := (t5.cell (p := ⟨xp, 1, none⟩) hpx hap).trans cx1
                  have e0 := (t5.frozen (p := ⟨xp, 0, none⟩) hpx hap).trans fx0
                  have e1 := (t5.frozen (p := ⟨xp, 1, none⟩) hpx hap).trans fx1
                  have hst := Lib.hid (hx.out.store hr1 hr3 hr4 t5 (v := ((x + d : Nat) : Int)) (b := false) (by rw [hr2, Int.natAbs_natCast]) (decide_eq_false (by omega)).symm)
                  rw [env] at hst ⊢
                  replace env := Lib.hid env
                  have hr4 := Lib.hid hr4
                  clear hr1 hr2 hr3 hr5 t5))
  all_goals go_wp2_with fail
  all_goals (go_ret; exact ⟨rfl, o, hst.out.1, hr4.out, hst.out.2⟩)
end
section
open Go.RowKit
set_option maxRecDepth 100000 in
set_option maxHeartbeats 2000000 in
theorem And_low (zp xp : Nat) (xo : Option (Nat × Nat)) (x : Nat) (yp : Nat) (yo : Option (Nat × Nat)) (w : World) (hz : It w zp none 0) (hx : It w xp xo (x : Nat)) (hy : It w yp yo ((1073741823 : Nat) : Int)) (hx1 : x ≠ 0) (hb : bl x ≤ 6000000) :
    Calls Tryz.prog 132 #[.pointer (some ⟨zp, 0, none⟩), .pointer (some ⟨xp, 0, none⟩), .pointer (some ⟨yp, 0, none⟩)] w (IRes w zp none ((x % 1073741824 : Nat) : Int)) := by
  obtain ⟨m, f, hx1, hx2, hx3, cx1⟩ := hx.wd
  obtain ⟨n, g, hy1, hy2, hy3, cy1⟩ := hy.wd
  obtain ⟨nz, fz, hz1, hz2, hz3, cz1⟩ := hz.wd
  have hnz : nz = 0 := hz1
  subst hnz
  change w.cell? ⟨zp, 1, none⟩ = some (.slice none 0 0) at cz1
  rw [Int.natAbs_natCast] at hx3 hy3
  have hm : m ≤ 100000 := len_of_bl hx2 hx1.bd (by rw [hx3]; omega)
  have hm1 : 1 ≤ m := by
    rcases Nat.eq_zero_or_pos m with e | e
    · subst e
      have : 0 = x := hx3
      omega
    · exact e
  have hn : n ≤ 1 := len_of_bl hy2 hy1.bd (by rw [hy3]; exact Nat.le_trans (bl_le (k := 64) (by omega)) (by omega))
  have hn1 : n = 1 := by
    rcases Nat.eq_zero_or_pos n with e | e
    · subst e
      have : (0 : Nat) = 1073741823 := hy3
      omega
    · omega
  subst hn1
  obtain ⟨xb, xc, rfl⟩ := hx1.some hm1
  obtain ⟨yb, yc, rfl⟩ := hy1.some (Nat.le_refl 1)
  have hyd : g 0 = 1073741823 := by rw [← vl_one g]; exact hy3
  have hA := fun q => and_low xb xc m yb yc f g (w.drewN q) (fun i hi => hx1.2.2.2.1 i (by have := hx1.1; omega)) hm1 hm (fun i hi => hy1.2.2.2.1 i (by have := hy1.1; omega)) hyd
  simp only [hx3] at hA
  change w.cell? ⟨xp, 1, none⟩ = some (.slice (some ⟨xb, 0, none⟩) m xc) at cx1
  change w.cell? ⟨yp, 1, none⟩ = some (.slice (some ⟨yb, 0, none⟩) 1 yc) at cy1
  have cx0 := hx.c0
  have cz0 := hz.c0
  have fz0 := hz.f0
  have fz1 := hz.f1
  have cy0 := hy.c0
  rw [decide_eq_false (show ¬ ((x : Nat) : Int) < 0 by omega)] at cx0
  rw [decide_eq_false (show ¬ (((1073741823 : Nat) : Nat) : Int) < 0 by omega)] at cy0
  have hpz := hz.pl.lt
  have hap := hz.ap
  replace hz := Lib.hid hz
  generalize hvv : x % 1073741824 = v at *
  clear hy hx hx1 hx2 hx3 hy1 hy2 hy3 hb hz1 hz2 hz3 hyd hvv
  go_enter Tryz.func132, Tryz.ntmps132
  go_wp2_with fail
  go_quiet (fail)
  go_wp2_with fail
  go_region_law ((go_simp; go_at_call 155; ((with_reducible refine (hA _).mono ?_)); rintro e wa ⟨o, k, g, rfl, hr1, hr2, hr3, hr4, hr5⟩
                  have t5 : Turn (InB none) w wa := ⟨hr5.os, hr5.tape, hr5.output, hr5.size, hr5.block⟩
                  obtain ⟨sa, sc, env⟩ := hr1.slice
                  have d0 := (t5.cell (p := ⟨zp, 0, none⟩) hpz hap).trans cz0
                  have d1 := (t5.cell (p := ⟨zp, 1, none⟩) hpz hap).trans cz1
                  have e0 := (t5.frozen (p := ⟨zp, 0, none⟩) hpz hap).trans fz0
                  have e1 := (t5.frozen (p := ⟨zp, 1, none⟩) hpz hap).trans fz1
                  have hst := Lib.hid (hz.out.store hr1 hr3 hr4 t5 (v := ((v : Nat) : Int)) (b := false) (by rw [hr2, Int.natAbs_natCast]) (decide_eq_false (by omega)).symm)
                  rw [env] at hst ⊢
                  replace env := Lib.hid env
                  have hr4 := Lib.hid hr4
                  clear hr1 hr2 hr3 hr5 t5))
  all_goals go_wp2_with fail
  all_goals (go_ret; exact ⟨rfl, o, hst.out.1, hr4.out, hst.out.2⟩)
end
section
open Go.RowKit
def Dg (w : World) (b o n : Nat) (d : Nat → Nat) : Prop := ∀ i, i < n → w.cell? ⟨b, o + i, none⟩ = some (.int .i64 (d i : Nat)) ∧ d i < 1073741824
def Ds (w : World) (a : Option Addr) (n : Nat) (d : Nat → Nat) : Prop := n = 0 ∨ ∃ b o, a = some ⟨b, o, none⟩ ∧ Dg w b o n d
theorem Dg.lt {w : World} {b o n : Nat} {d : Nat → Nat} (h : Dg w b o n d) (hn : 0 < n) : b < w.heap.size := World.block_lt_of_cell? w _ (h 0 hn).1
theorem Dg.turn {S : Nat → Prop} {w w' : World} {b o n : Nat} {d : Nat → Nat} (h : Dg w b o n d) (t : Turn S w w') (hs : ¬ S b) : Dg w' b o n d := fun i hi =>
  ⟨(t.cell (p := ⟨b, o + i, none⟩) (h.lt (by omega)) hs).trans (h i hi).1, (h i hi).2⟩
theorem Ds.still {w w' : World} {a : Option Addr} {n : Nat} {d : Nat → Nat} (h : Ds w a n d) (t : Turn (fun _ => False) w w') : Ds w' a n d := by
  rcases h with h | ⟨b, o, h1, h2⟩
  · exact .inl h
  · exact .inr ⟨b, o, h1, h2.turn t id⟩
def top (d : Nat → Nat) (n : Nat) : Nat → Nat
  | 0 => 0
  | i + 1 => top d n i * 1073741824 + d (n - 1 - i)
def dv (d : Nat → Nat) : Nat → Nat
  | 0 => 0
  | n + 1 => dv d n + d n * 1073741824 ^ n
theorem top_dv {d : Nat → Nat} {n : Nat} : ∀ i, i ≤ n → top d n i * 1073741824 ^ (n - i) + dv d (n - i) = dv d n := by
  intro i
  induction i with
  | zero => intro _; simp [top]
  | succ i ih =>
    intro hi
    have h := ih (by omega)
    obtain ⟨k, hk⟩ : ∃ k, n - i = k + 1 := ⟨n - i - 1, by omega⟩
    have hk2 : n - (i + 1) = k := by omega
    have hk3 : n - 1 - i = k := by omega
    rw [hk] at h
    rw [hk2, top, hk3, ← h, dv, Nat.add_mul, Nat.pow_succ, Nat.mul_assoc, Nat.mul_comm (1073741824 ^ k) 1073741824]
    omega
theorem top_all (d : Nat → Nat) (n : Nat) : top d n n = dv d n := by
  have h := top_dv (d := d) (n := n) n (Nat.le_refl _)
  rw [Nat.sub_self] at h
  simpa [dv] using h
theorem top_lt {d : Nat → Nat} {n : Nat} (hd : ∀ i, i < n → d i < 1073741824) : ∀ i, i ≤ n → top d n i < 2 ^ (30 * i) := by
  intro i
  induction i with
  | zero => intro _; show 0 < _; exact Nat.pow_pos (by omega)
  | succ i ih =>
    intro hi
    have h := ih (by omega)
    have h2 := hd (n - 1 - i) (by omega)
    rw [top, Nat.mul_add, Nat.mul_one, Nat.pow_add]
    have : (top d n i + 1) * 1073741824 ≤ 2 ^ (30 * i) * 1073741824 := Nat.mul_le_mul_right _ h
    have e : (2 : Nat) ^ 30 = 1073741824 := rfl
    rw [e]
    omega
theorem IRes.new {w0 wr w' : World} {p : Nat} {o : Option (Nat × Nat)} {v : Int} {e : Ending} (hn : New w0 p o) (t : Turn (fun _ => False) w0 wr) (h : IRes wr p o v e w') :
    e = .returned (.pointer (some ⟨p, 0, none⟩)) ∧ ∃ o2, It w' p o2 v ∧ New w0 p o2 ∧ Turn (fun _ => False) w0 w' := by
  obtain ⟨he, o2, h1, h2, h3⟩ := h
  refine ⟨he, o2, h1, ?_, t.trans h3 fun k hk g => absurd (hn k g) (by omega)⟩
  rintro k (rfl | ⟨c, g⟩)
  · exact hn _ (.inl rfl)
  · rcases h2 k c g with g2 | g2
    · exact hn k (.inr g2)
    · exact Nat.le_trans t.size g2
structure WRel (w0 : World) (p : Nat) (d : Nat → Nat) (n i : Nat) (wr : World) : Prop where
  it : ∃ o, It wr p o ((top d n i : Nat) : Int) ∧ New w0 p o
  turn : Turn (fun _ => False) w0 wr
set_option maxRecDepth 100000 in
set_option maxHeartbeats 2000000 in
theorem whole_any (neg : Bool) (a : Option Addr) (n c : Nat) (d : Nat → Nat) (w : World) (hd : Ds w a n d) (hn : n ≤ 2000) :
    Calls Tryz.prog 85 #[.bool neg, .slice a n c] w (NewRes w (if neg then -((dv d n : Nat) : Int) else ((dv d n : Nat) : Int))) := by
  have hlt : ∀ i, i < n → d i < 1073741824 := by
    rcases hd with h | ⟨b, o, _, h2⟩
    · intro i hi; omega
    · exact fun i hi => (h2 i hi).2
  have h0 : WRel w w.heap.size d n 0 (w.alloc (.cells #[.bool false, .slice none 0 0] 128)) := by
    refine ⟨⟨none, It.made w, ?_⟩, (Turn.refl (fun _ => False) w).alloc _⟩
    rintro k (rfl | ⟨c, e⟩)
    · exact Nat.le_refl _
    · cases e
  generalize hv : (if neg then -((dv d n : Nat) : Int) else ((dv d n : Nat) : Int)) = v
  replace hv := Lib.hid hv
  replace h0 := Lib.hid h0
  replace hlt := Lib.hid hlt
  replace hd := Lib.hid hd
  go_enter Tryz.func85, Tryz.ntmps85
  go_wp2
  generalize w.heap.size = p at *
  go_loopw [10] (fun vi wr => ∃ k : Nat, k ≤ n ∧ vi = .int .i64 k ∧ WRel w p d n k wr) (fun vi _ => n - (intOf vi).toNat)
  case atStart => exact ⟨0, Nat.zero_le _, rfl, h0.out⟩
  case round =>
    obtain ⟨k, hk, rfl, hrel⟩ := hrel
    by_cases hkn : k < n
    · have hkd := hlt.out (n - 1 - k) (by omega)
      have htl := top_lt hlt.out k (by omega)
      have htm : top d n k * 2 ^ 30 < 2 ^ (30 * k + 30) := by rw [Nat.pow_add]; exact Nat.mul_lt_mul_of_pos_right htl (by decide)
      obtain ⟨⟨o, hI, hN⟩, hT⟩ := hrel
      rcases hd.out with h | ⟨b, off, rfl, hdg⟩
      · omega
      have hda := hdg.turn hT id
      have hdb := Lib.hid (hdg.lt (by omega))
      have hbb : bl ((top d n k : Nat) : Int).natAbs ≤ 6000000 := by rw [Int.natAbs_natCast]; exact Nat.le_trans (bl_le htl) (by omega)
      have hA0 := Lsh_any p o _ p o _ 30 _ hI hI (.inl ⟨rfl, rfl⟩) hbb (by omega) (by omega)
      rw [show ((top d n k : Nat) : Int) * 2 ^ 30 = ((top d n k * 1073741824 : Nat) : Int) from by rw [Int.natCast_mul]; rfl] at hA0
      have hA : Calls Tryz.prog 124 #[.pointer (some ⟨p, 0, none⟩), .pointer (some ⟨p, 0, none⟩), .int .u64 30] wr _ := hA0
      clear hA0
      have hbm : bl (top d n k * 1073741824) ≤ 6000000 := Nat.le_trans (bl_le htm) (by omega)
      clear hdg hI
      have hn1 : (0 : Int) ≤ (n : Int) - 1 - (k : Int) := by omega
      have hn2 : (n : Int) - 1 - (k : Int) < n := by omega
      have hn3 : ((n : Int) - 1 - (k : Int)).toNat = n - 1 - k := by omega
      have hw1 : IntKind.i64.wrap ((n : Int) - 1) = (n : Int) - 1 := IntWalk.i64_in _ (by omega)
      have hw2 : IntKind.i64.wrap ((n : Int) - 1 - (k : Int)) = (n : Int) - 1 - (k : Int) := IntWalk.i64_in _ (by omega)
      replace hN := Lib.hid hN
      replace hT := Lib.hid hT
      replace hbm := Lib.hid hbm
      replace hda := Lib.hid hda
      replace hkd := Lib.hid hkd
      clear htl htm hbb
      go_wp2_with (first
        | (go_at_call 124
           ((with_reducible refine hA.mono ?_))
           rintro e wa hres
           obtain ⟨rfl, o2, hI2, hN2, hT2⟩ := hres.new hN.out hT.out
           have hd2 : wa.cell? ⟨b, off + (n - 1 - k), none⟩ = some (.int .i64 ((d (n - 1 - k) : Nat) : Int)) := by
             obtain ⟨_, _, _, _, ht⟩ := hres
             exact (ht.cell (p := ⟨b, off + (n - 1 - k), none⟩) (hda.out.lt (by omega)) (fun g => absurd (hN.out b g) (by have := hdb.out; omega))).trans (hda.out (n - 1 - k) (by omega)).1
           have hB := NewInt_any ((d (n - 1 - k) : Nat) : Int) (by have := hkd.out; omega) wa
           clear hres hA)
        | (go_at_call 126
           ((with_reducible refine hB.mono ?_))
           rintro e wb ⟨p3, o3, rfl, hI3, hN3, hT3⟩
           have hC := Or_low p o2 (top d n k * 1073741824) p3 o3 (d (n - 1 - k)) wb (hI2.still hT3) hI3 hbm.out (by omega) hkd.out
           have hT4 := Lib.hid (hT2.trans hT3 (fun _ _ g => g))
           clear hB hI3 hI2 hT2)
        | (go_at_call 125
           ((with_reducible refine hC.mono ?_))
           rintro e wc hres
           obtain ⟨rfl, o4, hI4, hN4, hT5⟩ := hres.new hN2 hT4.out
           have hst : WRel w p d n (k + 1) wc := ⟨⟨o4, hI4, hN4⟩, hT5⟩
           replace hst := Lib.hid hst
           clear hC hI4 hN4 hT5))
      all_goals go_roundw
      case rel => exact ⟨k + 1, by omega, by go_num, hst.out⟩
      case measure => simp [intOf]; omega
    · obtain rfl : k = n := by omega
      obtain ⟨⟨o, hI, hN⟩, hT⟩ := hrel
      rw [top_all] at hI
      rcases neg with _ | _
      · have hv1 : ((dv d k : Nat) : Int) = v := hv.out
        rw [hv1] at hI
        replace hI := Lib.hid hI
        replace hN := Lib.hid hN
        replace hT := Lib.hid hT
        clear hv1
        go_wp2_with fail
        go_ret
        exact ⟨p, o, rfl, hI.out, hN.out, hT.out⟩
      · have hv1 : -((dv d k : Nat) : Int) = v := hv.out
        have hA := Neg_same p o _ _ hI
        rw [hv1] at hA
        replace hI := Lib.hid hI
        replace hN := Lib.hid hN
        replace hT := Lib.hid hT
        clear hv1 hI
        go_wp2_with (go_at_call 92; ((with_reducible refine hA.mono ?_)); rintro e wa ⟨rfl, hI2, hT2⟩; have hI2 := Lib.hid hI2; have hT2 := Lib.hid hT2)
        go_ret
        exact ⟨p, o, rfl, hI2.out, hN.out, hT.out.trans hT2.out fun k hk g => absurd (hN.out k (.inl g)) (by omega)⟩
end
section
open Go.RowKit
set_option maxRecDepth 100000 in
set_option maxHeartbeats 2000000 in
theorem nvalid_true (a : Option Addr) (n c : Nat) (d : Nat → Nat) (w : World) (hd : Ds w a n d) (hn : n ≤ 2000) (h0 : n = 0 ∨ d (n - 1) ≠ 0) :
    Calls Tryz.prog 123 #[.slice a n c] w fun e w' => e = .returned (.bool true) ∧ w = w' := by
  replace hd := Lib.hid hd
  replace h0 := Lib.hid h0
  go_enter Tryz.func123, Tryz.ntmps123
  go_wp2
  go_loop [7] (fun vi => ∃ k : Nat, k ≤ n ∧ vi = .int .i64 k) (fun vi => n - (intOf vi).toNat)
  case atStart => exact ⟨0, Nat.zero_le _, rfl⟩
  case round =>
    obtain ⟨k, hk, rfl⟩ := hrel
    by_cases hkn : k < n
    · rcases hd.out with h | ⟨b, off, rfl, hdg⟩
      · omega
      have hc := (hdg k hkn).1
      have hlt := (hdg k hkn).2
      have h1 : ¬ ((d k : Nat) : Int) < 0 := by omega
      have h2 : ¬ (1073741824 : Int) ≤ ((d k : Nat) : Int) := by omega
      have h3 : d k < 1073741824 := hlt
      clear hdg
      go_wp2
      all_goals go_round
      case rel => exact ⟨k + 1, by omega, by go_num⟩
      case measure => simp [intOf]; omega
    · obtain rfl : k = n := by omega
      rcases Nat.eq_zero_or_pos k with rfl | hk1
      · go_wp2
        go_ret
        exact ⟨rfl, rfl⟩
      · rcases hd.out with h | ⟨b, off, rfl, hdg⟩
        · omega
        have hc := (hdg (k - 1) (by omega)).1
        have hne := h0.out.resolve_left (by omega)
        have b0 := beq0_false hne
        have b1 : ((k : Int) == 0) = false := beq0_false (by omega)
        have hi1 : (0 : Int) ≤ (k : Int) - 1 := by omega
        have hi2 : (k : Int) - 1 < k := by omega
        have hi3 : ((k : Int) - 1).toNat = k - 1 := by omega
        have hw1 : IntKind.i64.wrap ((k : Int) - 1) = (k : Int) - 1 := IntWalk.i64_in _ (by omega)
        have b2 : ((d (k - 1) : Nat) : Int) ≠ 0 := by omega
        have b3 : (((d (k - 1) : Nat) : Int) != 0) = true := by rw [bne, b0]; rfl
        have hle : ((k : Int) ≤ 2000) := by omega
        clear hdg
        go_wp2
        go_ret
        exact ⟨rfl, rfl⟩
structure NumOk (w : World) (neg : Bool) (a : Option Addr) (n : Nat) (x : Int) (d : Nat → Nat) (m : Int) : Prop where
  sgn : neg = decide (m < 0)
  ds : Ds w a n d
  le : n ≤ 2000
  val : dv d n = m.natAbs
  hi : n = 0 ∨ d (n - 1) ≠ 0
  lo : n = 0 ∨ d 0 % 2 = 1
  exp1 : -1048576 ≤ x
  exp2 : x ≤ 1048576
  zero : n = 0 → x = 0
def Num (w : World) (v : Value) (m x : Int) : Prop := ∃ neg a n c d, v = .agg #[.bool neg, .slice a n c, .int .i64 x] ∧ NumOk w neg a n x d m
theorem NumOk.still {w w' : World} {neg : Bool} {a : Option Addr} {n : Nat} {x : Int} {d : Nat → Nat} {m : Int} (h : NumOk w neg a n x d m) (t : Turn (fun _ => False) w w') : NumOk w' neg a n x d m :=
  ⟨h.sgn, h.ds.still t, h.le, h.val, h.hi, h.lo, h.exp1, h.exp2, h.zero⟩
theorem Num.still {w w' : World} {v : Value} {m x : Int} (h : Num w v m x) (t : Turn (fun _ => False) w w') : Num w' v m x := by
  obtain ⟨neg, a, n, c, d, e, h⟩ := h
  exact ⟨neg, a, n, c, d, e, h.still t⟩
theorem and_one (a : Nat) : bits .and .i64 (a : Int) 1 = ((a % 2 : Nat) : Int) := by
  have h1 : (BitVec.ofInt 64 1).toNat = 2 ^ 1 - 1 := by decide
  have key : (BitVec.ofInt 64 (a : Int) &&& BitVec.ofInt 64 1).toNat = ((a : Int) % ((2 ^ 64 : Nat) : Int)).toNat % 2 ^ 1 := by
    rw [BitVec.toNat_and, BitVec.toNat_ofInt, h1, Nat.and_two_pow_sub_one_eq_mod]
  show IntKind.i64.wrap ((BitVec.ofInt 64 (a : Int) &&& BitVec.ofInt 64 1).toNat : Nat) = _
  rw [key, IntKind.wrap_i64]
  omega
set_option maxRecDepth 100000 in
set_option maxHeartbeats 2000000 in
theorem valid_true (v : Value) (m x : Int) (w : World) (h : Num w v m x) :
    Calls Tryz.prog 84 #[v] w fun e w' => e = .returned (.bool true) ∧ ∃ o, w' = w.alloc o := by
  obtain ⟨neg, a, n, c, d, rfl, h⟩ := h
  rcases Nat.eq_zero_or_pos n with rfl | hn
  · have hx := h.zero rfl
    have hm : m = 0 := by have := h.val; rw [show dv d 0 = 0 from rfl] at this; omega
    have hs := h.sgn
    subst hx hm
    rw [show decide ((0 : Int) < 0) = false from rfl] at hs
    subst hs
    clear h
    go_enter Tryz.func84, Tryz.ntmps84
    go_wp2
    go_ret
    exact ⟨rfl, _, rfl⟩
  · have hA := fun w' t => nvalid_true a n c d w' (h.still (w' := w') t).ds h.le h.hi
    have hl := h.lo.resolve_left (by omega)
    have h1 := h.exp1
    have h2 := h.exp2
    rcases h.ds with g | ⟨b, o, rfl, hdg⟩
    · omega
    have hc := (hdg 0 hn).1
    rw [Nat.add_zero] at hc
    have hb := hdg.lt hn
    have b0 : ((n : Int) == 0) = false := beq0_false (by omega)
    have hbit := and_one (d 0)
    rw [hl] at hbit
    clear h hdg hl
    go_enter Tryz.func84, Tryz.ntmps84
    go_wp2_with (go_at_call 123; ((with_reducible refine (hA _ ((Turn.refl (fun _ => False) w).alloc _)).mono ?_)); rintro e wa ⟨rfl, rfl⟩)
    go_ret
    exact ⟨rfl, _, rfl⟩
end
end Go.Proofs.YtllapbkoildfiaaGreatFmt
