/- Natural numbers of big: add, sub of any two · The walks of Int's Add (printed by gen_inte.py) · Int's Add and Mul. -/
import Derived.Test.YtllapbkoildfiaaGreatFmtM15
set_option linter.all false
namespace Go.Proofs.YtllapbkoildfiaaGreatFmt
section
open Go.RowKit
theorem NRes.none0 {w : World} {zo : Option (Nat × Nat)} {mz : Nat} {fz : Nat → Nat} (hz : Nt w zo mz fz) : NRes w zo 0 (.returned (nv zo 0)) w := by
  rcases zo with _ | ⟨b, zc⟩
  · exact ⟨none, 0, fz, rfl, rfl, rfl, .inl rfl, Own.self _ _, Turn.refl _ _⟩
  · exact ⟨some (b, zc), 0, fz, rfl, ⟨Nat.zero_le _, hz.2⟩, rfl, .inl rfl, Own.self _ _, Turn.refl _ _⟩
theorem add_none (zo : Option (Nat × Nat)) (mz : Nat) (xa ya : Option Addr) (xc yc : Nat) (fz : Nat → Nat) (w : World) (hz : Nt w zo mz fz) :
    Calls Tryz.prog 154 #[nv zo mz, .slice xa 0 xc, .slice ya 0 yc] w (NRes w zo 0) := by
  have hres := Lib.hid (NRes.none0 hz)
  rcases zo with _ | ⟨zb, zc⟩
  · clear hz
    change Hid (NRes w none 0 (.returned (.slice none 0 0)) w) at hres
    show Calls Tryz.prog 154 #[.slice none 0 0, .slice xa 0 xc, .slice ya 0 yc] w (NRes w none 0)
    go_enter Tryz.func154, Tryz.ntmps154
    go_wp2_with fail
    go_ret
    exact hres.out
  · have h1 := hz.1
    clear hz
    change Hid (NRes w (some (zb, zc)) 0 (.returned (.slice (some ⟨zb, 0, none⟩) 0 zc)) w) at hres
    show Calls Tryz.prog 154 #[.slice (some ⟨zb, 0, none⟩) mz zc, .slice xa 0 xc, .slice ya 0 yc] w (NRes w (some (zb, zc)) 0)
    go_enter Tryz.func154, Tryz.ntmps154
    go_wp2_with fail
    go_ret
    exact hres.out
theorem add_fst (zo xo : Option (Nat × Nat)) (mz m : Nat) (ya : Option Addr) (yc : Nat) (fz x : Nat → Nat) (w : World) (hz : Nt w zo mz fz) (hx : Nt w xo m x) (hx0 : Nrm x m) (hm : m ≤ 100000) (hm1 : 1 ≤ m) :
    Calls Tryz.prog 154 #[nv zo mz, nv xo m, .slice ya 0 yc] w (NRes w zo (vl x m)) := by
  have hA := set_any zo xo mz m fz x w hz hx (by omega) hx0
  obtain ⟨za, zl, zc, ez⟩ := nv_slice zo mz
  have m0 : ((m : Int) == 0) = false := beq0_false (by omega)
  obtain ⟨b, c, rfl⟩ : ∃ b c, xo = some (b, c) := by
    rcases xo with _ | ⟨b, c⟩
    · have : m = 0 := hx
      omega
    · exact ⟨b, c, rfl⟩
  rw [ez] at hA ⊢
  clear hz hx hx0 ez
  change Calls Tryz.prog 142 #[_, .slice (some ⟨b, 0, none⟩) m c] _ _ at hA
  show Calls Tryz.prog 154 #[_, .slice (some ⟨b, 0, none⟩) m c, _] _ _
  go_enter Tryz.func154, Tryz.ntmps154
  go_wp2_with (go_at_call 142; ((with_reducible refine hA.mono ?_)); rintro e wa ⟨o, k, g, rfl, hr⟩; have hr := Lib.hid hr)
  go_ret
  exact ⟨o, k, g, rfl, hr.out⟩
theorem add_swap (z : Value) (xa ya : Option Addr) (m n xc yc : Nat) (w : World) (hmn : m < n) (_ : n ≤ 100000) (zo : Option (Nat × Nat)) (v : Nat) (hA : Calls Tryz.prog 154 #[z, .slice ya n yc, .slice xa m xc] w (NRes w zo v)) :
    Calls Tryz.prog 154 #[z, .slice xa m xc, .slice ya n yc] w (NRes w zo v) := by
  have hlt : (m : Int) < n := by omega
  go_enter Tryz.func154, Tryz.ntmps154
  go_wp2_with (go_at_call 154; ((with_reducible refine hA.mono ?_)); rintro e wa ⟨o, k, g, rfl, hr⟩; have hr := Lib.hid hr)
  go_ret
  exact ⟨o, k, g, rfl, hr.out⟩
theorem Nt.slice {w : World} {o : Option (Nat × Nat)} {n : Nat} {f : Nat → Nat} (h : Nt w o n f) : ∃ a c, nv o n = .slice a n c := by
  rcases o with _ | ⟨b, c⟩
  · have : n = 0 := h
    subst this
    exact ⟨none, 0, rfl⟩
  · exact ⟨_, _, rfl⟩
theorem Nt.some {w : World} {o : Option (Nat × Nat)} {n : Nat} {f : Nat → Nat} (h : Nt w o n f) (hn : 1 ≤ n) : ∃ b c, o = .some (b, c) := by
  rcases o with _ | ⟨b, c⟩
  · have : n = 0 := h
    omega
  · exact ⟨_, _, rfl⟩
theorem add_ord (zo xo yo : Option (Nat × Nat)) (mz m n : Nat) (fz x y : Nat → Nat) (w : World) (hz : Nt w zo mz fz) (hx : Nt w xo m x) (hy : Nt w yo n y) (hx0 : Nrm x m) (hm : m ≤ 100000) (hmn : n ≤ m) :
    Calls Tryz.prog 154 #[nv zo mz, nv xo m, nv yo n] w (NRes w zo (vl x m + vl y n)) := by
  rcases Nat.eq_zero_or_pos n with rfl | hn1
  · obtain ⟨ya, yc, ey⟩ := hy.slice
    rw [ey]
    rcases Nat.eq_zero_or_pos m with rfl | hm1
    · obtain ⟨xa, xc, ex⟩ := hx.slice
      rw [ex]
      exact add_none zo mz xa ya xc yc fz w hz
    · exact add_fst zo xo mz m ya yc fz x w hz hx hx0 hm hm1
  · obtain ⟨yb, yc, rfl⟩ := hy.some hn1
    obtain ⟨xb, xc, rfl⟩ := hx.some (by omega)
    exact add_long zo mz xb xc m yb yc n fz x y w hz hx hy hn1 hmn hm
theorem nadd_any (zo xo yo : Option (Nat × Nat)) (mz m n : Nat) (fz x y : Nat → Nat) (w : World) (hz : Nt w zo mz fz) (hx : Nt w xo m x) (hy : Nt w yo n y) (hx0 : Nrm x m) (hy0 : Nrm y n) (hm : m ≤ 100000) (hn : n ≤ 100000) :
    Calls Tryz.prog 154 #[nv zo mz, nv xo m, nv yo n] w (NRes w zo (vl x m + vl y n)) := by
  by_cases h : m < n
  · obtain ⟨ya, yc, ey⟩ := hy.slice
    obtain ⟨xa, xc, ex⟩ := hx.slice
    have hA := add_ord zo yo xo mz n m fz y x w hz hy hx hy0 hn (by omega)
    rw [ex, ey, Nat.add_comm] at hA
    rw [ex, ey]
    exact add_swap _ xa ya m n xc yc w h hn zo _ hA
  · exact add_ord zo xo yo mz m n fz x y w hz hx hy hx0 hm (by omega)
theorem sub_none (zo : Option (Nat × Nat)) (mz : Nat) (xa ya : Option Addr) (xc yc : Nat) (fz : Nat → Nat) (w : World) (hz : Nt w zo mz fz) :
    Calls Tryz.prog 153 #[nv zo mz, .slice xa 0 xc, .slice ya 0 yc] w (NRes w zo 0) := by
  have hres := Lib.hid (NRes.none0 hz)
  rcases zo with _ | ⟨zb, zc⟩
  · clear hz
    change Hid (NRes w none 0 (.returned (.slice none 0 0)) w) at hres
    show Calls Tryz.prog 153 #[.slice none 0 0, .slice xa 0 xc, .slice ya 0 yc] w (NRes w none 0)
    go_enter Tryz.func153, Tryz.ntmps153
    go_wp2_with fail
    go_ret
    exact hres.out
  · have h1 := hz.1
    clear hz
    change Hid (NRes w (some (zb, zc)) 0 (.returned (.slice (some ⟨zb, 0, none⟩) 0 zc)) w) at hres
    show Calls Tryz.prog 153 #[.slice (some ⟨zb, 0, none⟩) mz zc, .slice xa 0 xc, .slice ya 0 yc] w (NRes w (some (zb, zc)) 0)
    go_enter Tryz.func153, Tryz.ntmps153
    go_wp2_with fail
    go_ret
    exact hres.out
theorem sub_fst (zo xo : Option (Nat × Nat)) (mz m : Nat) (ya : Option Addr) (yc : Nat) (fz x : Nat → Nat) (w : World) (hz : Nt w zo mz fz) (hx : Nt w xo m x) (hx0 : Nrm x m) (hm : m ≤ 100000) (hm1 : 1 ≤ m) :
    Calls Tryz.prog 153 #[nv zo mz, nv xo m, .slice ya 0 yc] w (NRes w zo (vl x m)) := by
  have hA := set_any zo xo mz m fz x w hz hx (by omega) hx0
  obtain ⟨za, zl, zc, ez⟩ := nv_slice zo mz
  have m0 : ((m : Int) == 0) = false := beq0_false (by omega)
  obtain ⟨b, c, rfl⟩ := hx.some hm1
  rw [ez] at hA ⊢
  clear hz hx hx0 ez
  change Calls Tryz.prog 142 #[_, .slice (some ⟨b, 0, none⟩) m c] _ _ at hA
  show Calls Tryz.prog 153 #[_, .slice (some ⟨b, 0, none⟩) m c, _] _ _
  go_enter Tryz.func153, Tryz.ntmps153
  go_wp2_with (go_at_call 142; ((with_reducible refine hA.mono ?_)); rintro e wa ⟨o, k, g, rfl, hr⟩; have hr := Lib.hid hr)
  go_ret
  exact ⟨o, k, g, rfl, hr.out⟩
theorem nsub_any (zo xo yo : Option (Nat × Nat)) (mz m n : Nat) (fz x y : Nat → Nat) (w : World) (hz : Nt w zo mz fz) (hx : Nt w xo m x) (hy : Nt w yo n y) (hx0 : Nrm x m) (hy0 : Nrm y n) (hm : m ≤ 100000) (hle : vl y n ≤ vl x m) :
    Calls Tryz.prog 153 #[nv zo mz, nv xo m, nv yo n] w (NRes w zo (vl x m - vl y n)) := by
  have hmn : n ≤ m := by
    rcases Nat.lt_or_ge m n with g | g
    · have := vl_len_lt hx.bd hy0 g
      omega
    · exact g
  rcases Nat.eq_zero_or_pos n with rfl | hn1
  · obtain ⟨ya, yc, ey⟩ := hy.slice
    rw [ey]
    rcases Nat.eq_zero_or_pos m with rfl | hm1
    · obtain ⟨xa, xc, ex⟩ := hx.slice
      rw [ex]
      exact sub_none zo mz xa ya xc yc fz w hz
    · exact sub_fst zo xo mz m ya yc fz x w hz hx hx0 hm hm1
  · obtain ⟨yb, yc, rfl⟩ := hy.some hn1
    obtain ⟨xb, xc, rfl⟩ := hx.some (by omega)
    exact sub_long zo mz xb xc m yb yc n fz x y w hz hx hy hn1 hmn hm hle
end
section
open Go.RowKit
theorem nv_pos {w : World} {o : Option (Nat × Nat)} {n : Nat} {f : Nat → Nat} (h : Nt w o n f) (h0 : Nrm f n) {v : Nat} (hv : vl f n = v) (hv0 : v ≠ 0) : (0 : Int) < n := by
  rcases Nat.eq_zero_or_pos n with g | g
  · subst g
    have : (0 : Nat) = v := hv
    omega
  · omega
theorem nv_zero {w : World} {o : Option (Nat × Nat)} {n : Nat} {f : Nat → Nat} (h : Nt w o n f) (h0 : Nrm f n) {v : Nat} (hv : vl f n = v) (hv0 : v = 0) : n = 0 := by
  exact Nat.le_zero.1 (len_of_bl (B := 0) h0 h.bd (by rw [hv, hv0]; exact Nat.le_of_eq rfl))
theorem quiet_add {f : FuncId} {args : Array Value} {w : World} {n k : Nat} {v : Value} (h : Calls Tryz.prog f args (w.drewN (n + k)) fun e w' => e = .returned v ∧ ∃ m, w' = (w.drewN (n + k)).drewN m) :
    Calls Tryz.prog f args (w.drewN (n + k)) fun e w'' => e = .returned v ∧ ∃ m, w'' = w.drewN (n + m) :=
  h.mono fun _ _ ⟨he, m, hm⟩ => ⟨he, k + m, by rw [hm, World.drewN_drewN, Nat.add_assoc]⟩
theorem nv_len (o : Option (Nat × Nat)) (n : Nat) (h : o = none → n = 0) : ∃ a c, nv o n = .slice a n c := by
  rcases o with _ | ⟨b, c⟩
  · have : n = 0 := h rfl
    subst this
    exact ⟨none, 0, rfl⟩
  · exact ⟨_, _, rfl⟩
set_option maxRecDepth 100000 in
set_option maxHeartbeats 2000000 in
theorem Add_sameP (zp : Nat) (zo : Option (Nat × Nat)) (z : Int) (xp : Nat) (xo : Option (Nat × Nat)) (x : Int) (yp : Nat) (yo : Option (Nat × Nat)) (y s : Int) (w : World) (hz : It w zp zo z) (hx : It w xp xo x) (hy : It w yp yo y) (hbx : bl x.natAbs ≤ 6000000) (hby : bl y.natAbs ≤ 6000000)
    (b : Bool) (b1 : decide (x < 0) = b) (b2 : decide (y < 0) = b) (v : Nat) (hv : v = x.natAbs + y.natAbs) (hv0 : v ≠ 0) (hs : v = s.natAbs) (hb : (b) = decide (s < 0)) :
    Calls Tryz.prog 134 #[.pointer (some ⟨zp, 0, none⟩), .pointer (some ⟨xp, 0, none⟩), .pointer (some ⟨yp, 0, none⟩)] w (IRes w zp zo s) := by
  obtain ⟨nz, fz, hz1, hz2, hz3, cz1⟩ := hz.wd
  obtain ⟨m, f, hx1, hx2, hx3, cx1⟩ := hx.wd
  obtain ⟨n, g, hy1, hy2, hy3, cy1⟩ := hy.wd
  have hm : m ≤ 100000 := len_of_bl hx2 hx1.bd (by rw [hx3]; omega)
  have hn : n ≤ 100000 := len_of_bl hy2 hy1.bd (by rw [hy3]; omega)
  have hA := fun q => nadd_any zo xo yo nz m n fz f g (w.drewN q) (by rcases zo with _ | ⟨b, c⟩ <;> exact hz1) (by rcases xo with _ | ⟨b, c⟩ <;> exact hx1) (by rcases yo with _ | ⟨b, c⟩ <;> exact hy1) hx2 hy2 hm hn
  simp only [hx3, hy3, ← hv] at hA
  have cz0 := hz.c0
  have fz0 := hz.f0
  have fz1 := hz.f1
  have cx0 := hx.c0
  have cy0 := hy.c0
  rw [b1] at cx0
  rw [b2] at cy0
  have hpz := hz.pl.lt
  obtain ⟨za, zl, zc, ez⟩ := nv_slice zo nz
  obtain ⟨xa, xl, xc, ex⟩ := nv_slice xo m
  obtain ⟨ya, yl, yc, ey⟩ := nv_slice yo n
  rw [ez] at cz1
  rw [ex] at cx1
  rw [ey] at cy1
  simp only [ez, ex, ey] at hA

  clear ez ex ey
  replace hz := Lib.hid hz
  replace hs := Lib.hid hs
  replace hb := Lib.hid hb
  replace hv0 := Lib.hid hv0
  clear hx hy hz1 hz2 hz3 hx1 hx2 hx3 hy1 hy2 hy3 hv b1 b2 hbx hby
  go_enter Tryz.func134, Tryz.ntmps134
  go_wp2_with fail
  go_quiet (fail)
  go_wp2_with fail
  go_region_law ((go_simp; go_at_call 154; ((with_reducible refine (hA _).mono ?_)); rintro e wa ⟨o, k, g, rfl, hr1, hr2, hr3, hr4, hr5⟩
                  have t5 : Turn (InB zo) w wa := ⟨hr5.os, hr5.tape, hr5.output, hr5.size, hr5.block⟩
                  have k0 := nv_pos hr1 hr3 hr2 hv0.out
                  obtain ⟨sa, sc, env⟩ := hr1.slice
                  have d0 := (t5.cell (p := ⟨zp, 0, none⟩) hpz hz.out.ap).trans cz0
                  have d1 := (t5.cell (p := ⟨zp, 1, none⟩) hpz hz.out.ap).trans cz1
                  have e0 := (t5.frozen (p := ⟨zp, 0, none⟩) hpz hz.out.ap).trans fz0
                  have e1 := (t5.frozen (p := ⟨zp, 1, none⟩) hpz hz.out.ap).trans fz1
                  have hst := Lib.hid (hz.out.store hr1 hr3 hr4 t5 (v := s) (b := (b)) (by rw [hr2]; exact hs.out) hb.out)
                  rw [env] at hst ⊢
                  replace env := Lib.hid env
                  have hr4 := Lib.hid hr4
                  clear hr1 hr2 hr3 hr5 t5))
  all_goals go_wp2_with fail
  all_goals (go_ret; exact ⟨rfl, o, hst.out.1, hr4.out, hst.out.2⟩)
set_option maxRecDepth 100000 in
set_option maxHeartbeats 2000000 in
theorem Add_same0 (zp : Nat) (zo : Option (Nat × Nat)) (z : Int) (xp : Nat) (xo : Option (Nat × Nat)) (x : Int) (yp : Nat) (yo : Option (Nat × Nat)) (y s : Int) (w : World) (hz : It w zp zo z) (hx : It w xp xo x) (hy : It w yp yo y) (hbx : bl x.natAbs ≤ 6000000) (hby : bl y.natAbs ≤ 6000000)
    (b : Bool) (b1 : decide (x < 0) = b) (b2 : decide (y < 0) = b) (v : Nat) (hv : v = x.natAbs + y.natAbs) (hv0 : v = 0) (hs : v = s.natAbs) (hb : (false) = decide (s < 0)) :
    Calls Tryz.prog 134 #[.pointer (some ⟨zp, 0, none⟩), .pointer (some ⟨xp, 0, none⟩), .pointer (some ⟨yp, 0, none⟩)] w (IRes w zp zo s) := by
  obtain ⟨nz, fz, hz1, hz2, hz3, cz1⟩ := hz.wd
  obtain ⟨m, f, hx1, hx2, hx3, cx1⟩ := hx.wd
  obtain ⟨n, g, hy1, hy2, hy3, cy1⟩ := hy.wd
  have hm : m ≤ 100000 := len_of_bl hx2 hx1.bd (by rw [hx3]; omega)
  have hn : n ≤ 100000 := len_of_bl hy2 hy1.bd (by rw [hy3]; omega)
  have hA := fun q => nadd_any zo xo yo nz m n fz f g (w.drewN q) (by rcases zo with _ | ⟨b, c⟩ <;> exact hz1) (by rcases xo with _ | ⟨b, c⟩ <;> exact hx1) (by rcases yo with _ | ⟨b, c⟩ <;> exact hy1) hx2 hy2 hm hn
  simp only [hx3, hy3, ← hv] at hA
  have cz0 := hz.c0
  have fz0 := hz.f0
  have fz1 := hz.f1
  have cx0 := hx.c0
  have cy0 := hy.c0
  rw [b1] at cx0
  rw [b2] at cy0
  have hpz := hz.pl.lt
  obtain ⟨za, zl, zc, ez⟩ := nv_slice zo nz
  obtain ⟨xa, xl, xc, ex⟩ := nv_slice xo m
  obtain ⟨ya, yl, yc, ey⟩ := nv_slice yo n
  rw [ez] at cz1
  rw [ex] at cx1
  rw [ey] at cy1
  simp only [ez, ex, ey] at hA

  clear ez ex ey
  replace hz := Lib.hid hz
  replace hs := Lib.hid hs
  replace hb := Lib.hid hb
  replace hv0 := Lib.hid hv0
  clear hx hy hz1 hz2 hz3 hx1 hx2 hx3 hy1 hy2 hy3 hv b1 b2 hbx hby
  go_enter Tryz.func134, Tryz.ntmps134
  go_wp2_with fail
  go_quiet (fail)
  go_wp2_with fail
  go_region_law ((go_simp; go_at_call 154; ((with_reducible refine (hA _).mono ?_)); rintro e wa ⟨o, k, g, rfl, hr1, hr2, hr3, hr4, hr5⟩
                  have t5 : Turn (InB zo) w wa := ⟨hr5.os, hr5.tape, hr5.output, hr5.size, hr5.block⟩
                  obtain rfl := nv_zero hr1 hr3 hr2 hv0.out
                  obtain ⟨sa, sc, env⟩ := hr1.slice
                  have d0 := (t5.cell (p := ⟨zp, 0, none⟩) hpz hz.out.ap).trans cz0
                  have d1 := (t5.cell (p := ⟨zp, 1, none⟩) hpz hz.out.ap).trans cz1
                  have e0 := (t5.frozen (p := ⟨zp, 0, none⟩) hpz hz.out.ap).trans fz0
                  have e1 := (t5.frozen (p := ⟨zp, 1, none⟩) hpz hz.out.ap).trans fz1
                  have hst := Lib.hid (hz.out.store hr1 hr3 hr4 t5 (v := s) (b := (false)) (by rw [hr2]; exact hs.out) hb.out)
                  rw [env] at hst ⊢
                  replace env := Lib.hid env
                  have hr4 := Lib.hid hr4
                  clear hr1 hr2 hr3 hr5 t5))
  all_goals go_wp2_with fail
  all_goals (go_ret; exact ⟨rfl, o, hst.out.1, hr4.out, hst.out.2⟩)
set_option maxRecDepth 100000 in
set_option maxHeartbeats 2000000 in
theorem Add_geP (zp : Nat) (zo : Option (Nat × Nat)) (z : Int) (xp : Nat) (xo : Option (Nat × Nat)) (x : Int) (yp : Nat) (yo : Option (Nat × Nat)) (y s : Int) (w : World) (hz : It w zp zo z) (hx : It w xp xo x) (hy : It w yp yo y) (hbx : bl x.natAbs ≤ 6000000) (hby : bl y.natAbs ≤ 6000000)
    (b : Bool) (b1 : decide (x < 0) = b) (b2 : decide (y < 0) = !b) (hc : y.natAbs ≤ x.natAbs) (v : Nat) (hv : v = x.natAbs - y.natAbs) (hv0 : v ≠ 0) (hs : v = s.natAbs) (hb : (b) = decide (s < 0)) :
    Calls Tryz.prog 134 #[.pointer (some ⟨zp, 0, none⟩), .pointer (some ⟨xp, 0, none⟩), .pointer (some ⟨yp, 0, none⟩)] w (IRes w zp zo s) := by
  obtain ⟨nz, fz, hz1, hz2, hz3, cz1⟩ := hz.wd
  obtain ⟨m, f, hx1, hx2, hx3, cx1⟩ := hx.wd
  obtain ⟨n, g, hy1, hy2, hy3, cy1⟩ := hy.wd
  have hm : m ≤ 100000 := len_of_bl hx2 hx1.bd (by rw [hx3]; omega)
  have hn : n ≤ 100000 := len_of_bl hy2 hy1.bd (by rw [hy3]; omega)
  have hA := fun q => nsub_any zo xo yo nz m n fz f g (w.drewN q) (by rcases zo with _ | ⟨b, c⟩ <;> exact hz1) (by rcases xo with _ | ⟨b, c⟩ <;> exact hx1) (by rcases yo with _ | ⟨b, c⟩ <;> exact hy1) hx2 hy2 hm (by rw [hx3, hy3]; exact hc)
  simp only [hx3, hy3, ← hv] at hA
  have hC := fun q => cmp_any xo yo m n f g (w.drewN q) (by rcases xo with _ | ⟨b, c⟩ <;> exact hx1) (by rcases yo with _ | ⟨b, c⟩ <;> exact hy1) hx2 hy2 hm hn
  simp only [hx3, hy3] at hC
  have hcm : ¬ cmpN x.natAbs y.natAbs < 0 := by unfold cmpN; split <;> (try split) <;> omega
  have hbb : (b == !b) = false := by cases b <;> rfl
  have cz0 := hz.c0
  have fz0 := hz.f0
  have fz1 := hz.f1
  have cx0 := hx.c0
  have cy0 := hy.c0
  rw [b1] at cx0
  rw [b2] at cy0
  have hpz := hz.pl.lt
  obtain ⟨za, zl, zc, ez⟩ := nv_slice zo nz
  obtain ⟨xa, xl, xc, ex⟩ := nv_slice xo m
  obtain ⟨ya, yl, yc, ey⟩ := nv_slice yo n
  rw [ez] at cz1
  rw [ex] at cx1
  rw [ey] at cy1
  simp only [ez, ex, ey] at hA
  simp only [ex, ey] at hC
  clear ez ex ey
  replace hz := Lib.hid hz
  replace hs := Lib.hid hs
  replace hb := Lib.hid hb
  replace hv0 := Lib.hid hv0
  clear hx hy hz1 hz2 hz3 hx1 hx2 hx3 hy1 hy2 hy3 hv b1 b2 hbx hby hc
  go_enter Tryz.func134, Tryz.ntmps134
  go_wp2_with fail
  go_quiet (fail)
  go_wp2_with fail
  go_quiet ((go_at_call 162; exact quiet_add (hC _)))
  go_wp2_with fail
  go_region_law ((go_simp; go_at_call 153; ((with_reducible refine (hA _).mono ?_)); rintro e wa ⟨o, k, g, rfl, hr1, hr2, hr3, hr4, hr5⟩
                  have t5 : Turn (InB zo) w wa := ⟨hr5.os, hr5.tape, hr5.output, hr5.size, hr5.block⟩
                  have k0 := nv_pos hr1 hr3 hr2 hv0.out
                  obtain ⟨sa, sc, env⟩ := hr1.slice
                  have d0 := (t5.cell (p := ⟨zp, 0, none⟩) hpz hz.out.ap).trans cz0
                  have d1 := (t5.cell (p := ⟨zp, 1, none⟩) hpz hz.out.ap).trans cz1
                  have e0 := (t5.frozen (p := ⟨zp, 0, none⟩) hpz hz.out.ap).trans fz0
                  have e1 := (t5.frozen (p := ⟨zp, 1, none⟩) hpz hz.out.ap).trans fz1
                  have hst := Lib.hid (hz.out.store hr1 hr3 hr4 t5 (v := s) (b := (b)) (by rw [hr2]; exact hs.out) hb.out)
                  rw [env] at hst ⊢
                  replace env := Lib.hid env
                  have hr4 := Lib.hid hr4
                  clear hr1 hr2 hr3 hr5 t5))
  all_goals go_wp2_with fail
  all_goals (go_ret; exact ⟨rfl, o, hst.out.1, hr4.out, hst.out.2⟩)
set_option maxRecDepth 100000 in
set_option maxHeartbeats 2000000 in
theorem Add_ge0 (zp : Nat) (zo : Option (Nat × Nat)) (z : Int) (xp : Nat) (xo : Option (Nat × Nat)) (x : Int) (yp : Nat) (yo : Option (Nat × Nat)) (y s : Int) (w : World) (hz : It w zp zo z) (hx : It w xp xo x) (hy : It w yp yo y) (hbx : bl x.natAbs ≤ 6000000) (hby : bl y.natAbs ≤ 6000000)
    (b : Bool) (b1 : decide (x < 0) = b) (b2 : decide (y < 0) = !b) (hc : y.natAbs ≤ x.natAbs) (v : Nat) (hv : v = x.natAbs - y.natAbs) (hv0 : v = 0) (hs : v = s.natAbs) (hb : (false) = decide (s < 0)) :
    Calls Tryz.prog 134 #[.pointer (some ⟨zp, 0, none⟩), .pointer (some ⟨xp, 0, none⟩), .pointer (some ⟨yp, 0, none⟩)] w (IRes w zp zo s) := by
  obtain ⟨nz, fz, hz1, hz2, hz3, cz1⟩ := hz.wd
  obtain ⟨m, f, hx1, hx2, hx3, cx1⟩ := hx.wd
  obtain ⟨n, g, hy1, hy2, hy3, cy1⟩ := hy.wd
  have hm : m ≤ 100000 := len_of_bl hx2 hx1.bd (by rw [hx3]; omega)
  have hn : n ≤ 100000 := len_of_bl hy2 hy1.bd (by rw [hy3]; omega)
  have hA := fun q => nsub_any zo xo yo nz m n fz f g (w.drewN q) (by rcases zo with _ | ⟨b, c⟩ <;> exact hz1) (by rcases xo with _ | ⟨b, c⟩ <;> exact hx1) (by rcases yo with _ | ⟨b, c⟩ <;> exact hy1) hx2 hy2 hm (by rw [hx3, hy3]; exact hc)
  simp only [hx3, hy3, ← hv] at hA
  have hC := fun q => cmp_any xo yo m n f g (w.drewN q) (by rcases xo with _ | ⟨b, c⟩ <;> exact hx1) (by rcases yo with _ | ⟨b, c⟩ <;> exact hy1) hx2 hy2 hm hn
  simp only [hx3, hy3] at hC
  have hcm : ¬ cmpN x.natAbs y.natAbs < 0 := by unfold cmpN; split <;> (try split) <;> omega
  have hbb : (b == !b) = false := by cases b <;> rfl
  have cz0 := hz.c0
  have fz0 := hz.f0
  have fz1 := hz.f1
  have cx0 := hx.c0
  have cy0 := hy.c0
  rw [b1] at cx0
  rw [b2] at cy0
  have hpz := hz.pl.lt
  obtain ⟨za, zl, zc, ez⟩ := nv_slice zo nz
  obtain ⟨xa, xl, xc, ex⟩ := nv_slice xo m
  obtain ⟨ya, yl, yc, ey⟩ := nv_slice yo n
  rw [ez] at cz1
  rw [ex] at cx1
  rw [ey] at cy1
  simp only [ez, ex, ey] at hA
  simp only [ex, ey] at hC
  clear ez ex ey
  replace hz := Lib.hid hz
  replace hs := Lib.hid hs
  replace hb := Lib.hid hb
  replace hv0 := Lib.hid hv0
  clear hx hy hz1 hz2 hz3 hx1 hx2 hx3 hy1 hy2 hy3 hv b1 b2 hbx hby hc
  go_enter Tryz.func134, Tryz.ntmps134
  go_wp2_with fail
  go_quiet (fail)
  go_wp2_with fail
  go_quiet ((go_at_call 162; exact quiet_add (hC _)))
  go_wp2_with fail
  go_region_law ((go_simp; go_at_call 153; ((with_reducible refine (hA _).mono ?_)); rintro e wa ⟨o, k, g, rfl, hr1, hr2, hr3, hr4, hr5⟩
                  have t5 : Turn (InB zo) w wa := ⟨hr5.os, hr5.tape, hr5.output, hr5.size, hr5.block⟩
                  obtain rfl := nv_zero hr1 hr3 hr2 hv0.out
                  obtain ⟨sa, sc, env⟩ := hr1.slice
                  have d0 := (t5.cell (p := ⟨zp, 0, none⟩) hpz hz.out.ap).trans cz0
                  have d1 := (t5.cell (p := ⟨zp, 1, none⟩) hpz hz.out.ap).trans cz1
                  have e0 := (t5.frozen (p := ⟨zp, 0, none⟩) hpz hz.out.ap).trans fz0
                  have e1 := (t5.frozen (p := ⟨zp, 1, none⟩) hpz hz.out.ap).trans fz1
                  have hst := Lib.hid (hz.out.store hr1 hr3 hr4 t5 (v := s) (b := (false)) (by rw [hr2]; exact hs.out) hb.out)
                  rw [env] at hst ⊢
                  replace env := Lib.hid env
                  have hr4 := Lib.hid hr4
                  clear hr1 hr2 hr3 hr5 t5))
  all_goals go_wp2_with fail
  all_goals (go_ret; exact ⟨rfl, o, hst.out.1, hr4.out, hst.out.2⟩)
set_option maxRecDepth 100000 in
set_option maxHeartbeats 2000000 in
theorem Add_ltP (zp : Nat) (zo : Option (Nat × Nat)) (z : Int) (xp : Nat) (xo : Option (Nat × Nat)) (x : Int) (yp : Nat) (yo : Option (Nat × Nat)) (y s : Int) (w : World) (hz : It w zp zo z) (hx : It w xp xo x) (hy : It w yp yo y) (hbx : bl x.natAbs ≤ 6000000) (hby : bl y.natAbs ≤ 6000000)
    (b : Bool) (b1 : decide (x < 0) = b) (b2 : decide (y < 0) = !b) (hc : x.natAbs < y.natAbs) (v : Nat) (hv : v = y.natAbs - x.natAbs) (hv0 : v ≠ 0) (hs : v = s.natAbs) (hb : (!b) = decide (s < 0)) :
    Calls Tryz.prog 134 #[.pointer (some ⟨zp, 0, none⟩), .pointer (some ⟨xp, 0, none⟩), .pointer (some ⟨yp, 0, none⟩)] w (IRes w zp zo s) := by
  obtain ⟨nz, fz, hz1, hz2, hz3, cz1⟩ := hz.wd
  obtain ⟨m, f, hx1, hx2, hx3, cx1⟩ := hx.wd
  obtain ⟨n, g, hy1, hy2, hy3, cy1⟩ := hy.wd
  have hm : m ≤ 100000 := len_of_bl hx2 hx1.bd (by rw [hx3]; omega)
  have hn : n ≤ 100000 := len_of_bl hy2 hy1.bd (by rw [hy3]; omega)
  have hA := fun q => nsub_any zo yo xo nz n m fz g f (w.drewN q) (by rcases zo with _ | ⟨b, c⟩ <;> exact hz1) (by rcases yo with _ | ⟨b, c⟩ <;> exact hy1) (by rcases xo with _ | ⟨b, c⟩ <;> exact hx1) hy2 hx2 hn (by rw [hx3, hy3]; omega)
  simp only [hx3, hy3, ← hv] at hA
  have hC := fun q => cmp_any xo yo m n f g (w.drewN q) (by rcases xo with _ | ⟨b, c⟩ <;> exact hx1) (by rcases yo with _ | ⟨b, c⟩ <;> exact hy1) hx2 hy2 hm hn
  simp only [hx3, hy3] at hC
  have hcm : cmpN x.natAbs y.natAbs = -1 := by unfold cmpN; rw [if_pos hc]
  simp only [hcm] at hC
  have hbb : (b == !b) = false := by cases b <;> rfl
  have cz0 := hz.c0
  have fz0 := hz.f0
  have fz1 := hz.f1
  have cx0 := hx.c0
  have cy0 := hy.c0
  rw [b1] at cx0
  rw [b2] at cy0
  have hpz := hz.pl.lt
  obtain ⟨za, zl, zc, ez⟩ := nv_slice zo nz
  obtain ⟨xa, xl, xc, ex⟩ := nv_slice xo m
  obtain ⟨ya, yl, yc, ey⟩ := nv_slice yo n
  rw [ez] at cz1
  rw [ex] at cx1
  rw [ey] at cy1
  simp only [ez, ex, ey] at hA
  simp only [ex, ey] at hC
  clear ez ex ey
  replace hz := Lib.hid hz
  replace hs := Lib.hid hs
  replace hb := Lib.hid hb
  replace hv0 := Lib.hid hv0
  clear hx hy hz1 hz2 hz3 hx1 hx2 hx3 hy1 hy2 hy3 hv b1 b2 hbx hby hc
  go_enter Tryz.func134, Tryz.ntmps134
  go_wp2_with fail
  go_quiet (fail)
  go_wp2_with fail
  go_quiet ((go_at_call 162; exact quiet_add (hC _)))
  go_wp2_with fail
  go_region_law ((go_simp; go_at_call 153; ((with_reducible refine (hA _).mono ?_)); rintro e wa ⟨o, k, g, rfl, hr1, hr2, hr3, hr4, hr5⟩
                  have t5 : Turn (InB zo) w wa := ⟨hr5.os, hr5.tape, hr5.output, hr5.size, hr5.block⟩
                  have k0 := nv_pos hr1 hr3 hr2 hv0.out
                  obtain ⟨sa, sc, env⟩ := hr1.slice
                  have d0 := (t5.cell (p := ⟨zp, 0, none⟩) hpz hz.out.ap).trans cz0
                  have d1 := (t5.cell (p := ⟨zp, 1, none⟩) hpz hz.out.ap).trans cz1
                  have e0 := (t5.frozen (p := ⟨zp, 0, none⟩) hpz hz.out.ap).trans fz0
                  have e1 := (t5.frozen (p := ⟨zp, 1, none⟩) hpz hz.out.ap).trans fz1
                  have hst := Lib.hid (hz.out.store hr1 hr3 hr4 t5 (v := s) (b := (!b)) (by rw [hr2]; exact hs.out) hb.out)
                  rw [env] at hst ⊢
                  replace env := Lib.hid env
                  have hr4 := Lib.hid hr4
                  clear hr1 hr2 hr3 hr5 t5))
  all_goals go_wp2_with fail
  all_goals (go_ret; exact ⟨rfl, o, hst.out.1, hr4.out, hst.out.2⟩)
end
section
open Go.RowKit
theorem Add_any (zp : Nat) (zo : Option (Nat × Nat)) (z : Int) (xp : Nat) (xo : Option (Nat × Nat)) (x : Int) (yp : Nat) (yo : Option (Nat × Nat)) (y : Int) (w : World) (hz : It w zp zo z) (hx : It w xp xo x) (hy : It w yp yo y) (hbx : bl x.natAbs ≤ 6000000) (hby : bl y.natAbs ≤ 6000000) :
    Calls Tryz.prog 134 #[.pointer (some ⟨zp, 0, none⟩), .pointer (some ⟨xp, 0, none⟩), .pointer (some ⟨yp, 0, none⟩)] w (IRes w zp zo (x + y)) := by
  by_cases gx : x < 0
  · have dx := decide_eq_true gx
    by_cases gy : y < 0
    · exact Add_sameP zp zo z xp xo x yp yo y _ w hz hx hy hbx hby true dx (decide_eq_true gy) _ rfl (by omega) (by omega) (decide_eq_true (by omega)).symm
    · have dy := decide_eq_false gy
      by_cases hc : y.natAbs ≤ x.natAbs
      · by_cases h0 : x.natAbs - y.natAbs = 0
        · exact Add_ge0 zp zo z xp xo x yp yo y _ w hz hx hy hbx hby true dx dy hc _ rfl h0 (by omega) (decide_eq_false (by omega)).symm
        · exact Add_geP zp zo z xp xo x yp yo y _ w hz hx hy hbx hby true dx dy hc _ rfl h0 (by omega) (decide_eq_true (by omega)).symm
      · exact Add_ltP zp zo z xp xo x yp yo y _ w hz hx hy hbx hby true dx dy (by omega) _ rfl (by omega) (by omega) (decide_eq_false (by omega)).symm
  · have dx := decide_eq_false gx
    by_cases gy : y < 0
    · have dy := decide_eq_true gy
      by_cases hc : y.natAbs ≤ x.natAbs
      · by_cases h0 : x.natAbs - y.natAbs = 0
        · exact Add_ge0 zp zo z xp xo x yp yo y _ w hz hx hy hbx hby false dx dy hc _ rfl h0 (by omega) (decide_eq_false (by omega)).symm
        · exact Add_geP zp zo z xp xo x yp yo y _ w hz hx hy hbx hby false dx dy hc _ rfl h0 (by omega) (decide_eq_false (by omega)).symm
      · exact Add_ltP zp zo z xp xo x yp yo y _ w hz hx hy hbx hby false dx dy (by omega) _ rfl (by omega) (by omega) (decide_eq_true (by omega)).symm
    · have dy := decide_eq_false gy
      by_cases h0 : x.natAbs + y.natAbs = 0
      · exact Add_same0 zp zo z xp xo x yp yo y _ w hz hx hy hbx hby false dx dy _ rfl h0 (by omega) (decide_eq_false (by omega)).symm
      · exact Add_sameP zp zo z xp xo x yp yo y _ w hz hx hy hbx hby false dx dy _ rfl h0 (by omega) (decide_eq_false (by omega)).symm
theorem nmul_any (xo yo : Option (Nat × Nat)) (m n : Nat) (x y : Nat → Nat) (w : World) (hx : Nt w xo m x) (hy : Nt w yo n y) (h40 : m < 40 ∨ n < 40) (hm : m ≤ 100000) (hn : n ≤ 100000) (hx0 : Nrm x m) (hy0 : Nrm y n) (hk : w.cell? ⟨5, 0, none⟩ = some (.int .i64 40)) :
    Calls Tryz.prog 193 #[.slice none 0 0, .pointer none, nv xo m, nv yo n] w (NRes w none (vl x m * vl y n)) := by
  by_cases h0 : m = 0 ∨ n = 0
  · obtain ⟨xa, xc, ex⟩ := hx.slice
    obtain ⟨ya, yc, ey⟩ := hy.slice
    rw [ex, ey]
    have hv : vl x m * vl y n = 0 := by
      rcases h0 with rfl | rfl
      · show 0 * _ = 0
        exact Nat.zero_mul _
      · show _ * 0 = 0
        exact Nat.mul_zero _
    rw [hv]
    refine (mul_none xa ya m n xc yc h0 hm hn w).mono ?_
    rintro e w' ⟨rfl, rfl⟩
    exact NRes.none0 (zo := none) (mz := 0) (fz := x) rfl
  · obtain ⟨xb, xc, rfl⟩ := hx.some (by omega)
    obtain ⟨yb, yc, rfl⟩ := hy.some (by omega)
    exact mul_some xb xc m yb yc n x y w hx hy (by omega) (by omega) h40 hm hn hx0 hy0 hk
set_option maxRecDepth 100000 in
set_option maxHeartbeats 8000000 in
theorem mul_P (zp xp : Nat) (xo : Option (Nat × Nat)) (x : Int) (yp : Nat) (yo : Option (Nat × Nat)) (y s : Int) (w : World) (hz : It w zp none 0) (hx : It w xp xo x) (hy : It w yp yo y) (hxz : zp ≠ xp) (hyz : zp ≠ yp) (hxy : xp ≠ yp) (h40 : bl x.natAbs ≤ 2496 ∨ bl y.natAbs ≤ 2496) (hbx : bl x.natAbs ≤ 6000000) (hby : bl y.natAbs ≤ 6000000) (hk : w.cell? ⟨5, 0, none⟩ = some (.int .i64 40))
    (bx bye : Bool) (b1 : decide (x < 0) = bx) (b2 : decide (y < 0) = bye) (v : Nat) (hv : v = x.natAbs * y.natAbs) (hv0 : v ≠ 0) (hs : v = s.natAbs) (hb : (bx != bye) = decide (s < 0)) :
    Calls Tryz.prog 163 #[.pointer (some ⟨zp, 0, none⟩), .pointer none, .pointer (some ⟨xp, 0, none⟩), .pointer (some ⟨yp, 0, none⟩)] w fun e w' => e = .returned (.tuple #[]) ∧ ∃ o, It w' zp o s ∧ Own w none o ∧ Turn (IB zp none) w w' := by
  obtain ⟨m, f, hx1, hx2, hx3, cx1⟩ := hx.wd
  obtain ⟨n, g, hy1, hy2, hy3, cy1⟩ := hy.wd
  obtain ⟨nz, fz, hz1, hz2, hz3, cz1⟩ := hz.wd
  have hnz : nz = 0 := hz1
  subst hnz
  change w.cell? ⟨zp, 1, none⟩ = some (.slice none 0 0) at cz1
  have hm : m ≤ 100000 := len_of_bl hx2 hx1.bd (by rw [hx3]; omega)
  have hn : n ≤ 100000 := len_of_bl hy2 hy1.bd (by rw [hy3]; omega)
  have h4 : m < 40 ∨ n < 40 := by
    rcases h40 with h | h
    · exact .inl (Nat.lt_of_le_of_lt (len_of_bl (B := 39) hx2 hx1.bd (by rw [hx3]; omega)) (by omega))
    · exact .inr (Nat.lt_of_le_of_lt (len_of_bl (B := 39) hy2 hy1.bd (by rw [hy3]; omega)) (by omega))
  have hA := nmul_any xo yo m n f g w.drew (by rcases xo with _ | ⟨b, c⟩ <;> exact hx1) (by rcases yo with _ | ⟨b, c⟩ <;> exact hy1) h4 hm hn hx2 hy2 hk
  rw [hx3, hy3, ← hv] at hA
  have cz0 := hz.c0
  have fz0 := hz.f0
  have fz1 := hz.f1
  have cx0 := hx.c0
  have cy0 := hy.c0
  rw [b1] at cx0
  rw [b2] at cy0
  have hpz := hz.pl.lt
  have hpx := hx.pl.lt
  have hpy := hy.pl.lt
  have hap := hz.ap
  have hne := ptr_eql_other 95 128 (by kernel_rfl) (by kernel_rfl) (a := ⟨xp, 0, none⟩) (b := ⟨yp, 0, none⟩) w hxy hx.pl hy.pl
  obtain ⟨xa, xl, xc, ex⟩ := nv_slice xo m
  obtain ⟨ya, yl, yc, ey⟩ := nv_slice yo n
  rw [ex] at cx1
  rw [ey] at cy1
  rw [ex, ey] at hA
  clear ex ey
  replace hz := Lib.hid hz
  replace hs := Lib.hid hs
  replace hb := Lib.hid hb
  replace hv0 := Lib.hid hv0
  replace hxy := Lib.hid hxy
  clear hx hy hz1 hz2 hz3 hx1 hx2 hx3 hy1 hy2 hy3 hv b1 b2 hbx hby h40 h4 hk
  go_enter Tryz.func163, Tryz.ntmps163
  go_wp2_with fail
  go_region_law ((go_simp; go_at_call 193; ((with_reducible refine hA.mono ?_)); rintro e wa ⟨o, k, g, rfl, hr1, hr2, hr3, hr4, hr5⟩
                  have t5 : Turn (InB none) w wa := ⟨hr5.os, hr5.tape, hr5.output, hr5.size, hr5.block⟩
                  have k0 := nv_pos hr1 hr3 hr2 hv0.out
                  obtain ⟨sa, sc, env⟩ := hr1.slice
                  have d0 := (t5.cell (p := ⟨zp, 0, none⟩) hpz hap).trans cz0
                  have d1 := (t5.cell (p := ⟨zp, 1, none⟩) hpz hap).trans cz1
                  have e0 := (t5.frozen (p := ⟨zp, 0, none⟩) hpz hap).trans fz0
                  have e1 := (t5.frozen (p := ⟨zp, 1, none⟩) hpz hap).trans fz1
                  have d2 := (t5.cell (p := ⟨xp, 0, none⟩) hpx (fun g => nomatch g.choose_spec)).trans cx0
                  have d3 := (t5.cell (p := ⟨yp, 0, none⟩) hpy (fun g => nomatch g.choose_spec)).trans cy0
                  have hst := Lib.hid (hz.out.store hr1 hr3 hr4 t5 (v := s) (b := (bx != bye)) (by rw [hr2]; exact hs.out) hb.out)
                  rw [env] at hst ⊢
                  replace env := Lib.hid env
                  have hr4 := Lib.hid hr4
                  clear hr1 hr2 hr3 hr5 t5))
  all_goals go_wp2_with fail
  all_goals
    have f1 := World.cell?_setCell_same wa ⟨zp, 1, none⟩ (.slice sa k sc) d1
    have f0 := (World.frozen?_setCell wa ⟨zp, 1, none⟩ ⟨zp, 0, none⟩ (.slice sa k sc)).trans e0
    have f2 := (World.cell?_setCell_other wa ⟨zp, 1, none⟩ ⟨xp, 0, none⟩ (.slice sa k sc) (by intro e; simp at e)).trans d2
    have f3 := (World.cell?_setCell_other wa ⟨zp, 1, none⟩ ⟨yp, 0, none⟩ (.slice sa k sc) (by intro e; simp at e)).trans d3
    have f4 := (World.cell?_setCell_other wa ⟨zp, 1, none⟩ ⟨zp, 0, none⟩ (.slice sa k sc) (by intro e; simp at e)).trans d0
    clear d0 d1 d2 d3 e0 e1
    generalize wa.setCell ⟨zp, 1, none⟩ (.slice sa k sc) = wb at *
    clear hA hne cz1 hm hn cz0 fz0 fz1 cx0 cy0 hpz hpx hpy hap cx1 cy1
    have k1 : 0 < k := by omega
    go_still_tail 18, (by kernel_rfl)
    change wpList _ _ _ _ _ wb.drew
    go_wp2_with fail
    refine bodyPost_end (results_none rfl _ _ _) rfl ?_
    exact ⟨rfl, o, hst.out.1.drew, hr4.out, hst.out.2.drew⟩
end
end Go.Proofs.YtllapbkoildfiaaGreatFmt
