/- math/big.Float: round to few bits: the walks, more words. -/
import Derived.Test.YtllapbkoildfiaaGreatFmtM26
import Derived.BigQuiet
set_option linter.all false
namespace Go.Proofs.YtllapbkoildfiaaGreatFmt
section
open Go.RowKit
set_option maxRecDepth 100000 in
set_option maxHeartbeats 4000000 in
theorem cut_many_00 {p pr k : Nat} {acc : Int} {ng : Bool} {f : Nat → Nat} {ex : Int} (b c s K : Nat) (w : World) (h : Fl w p pr acc 1 ng (some (b, c)) (k + 1) f ex) (hk1 : 1 ≤ k) (hk : k ≤ 10000) (hK : K = 64 * k + s) (hT : Top (vl f (k + 1)) K pr s (f k)) (_he : -100000 ≤ ex ∧ ex ≤ 100000)
    (hrb : vl f (k + 1) / 2 ^ (K - 1) % 2 = 0) (hsb : vl f (k + 1) % 2 ^ (K - 1) = 0) :
    Calls Tryz.prog 175 #[.pointer (some ⟨p, 0, none⟩), .int .u64 0] w (CRes w p pr ng b c (vl f (k + 1)) K s ex) := by
  have h1 := h.setAcc 0
  have hne : b ≠ p := fun e => h.ap ⟨c, by rw [e]⟩
  have hwd : Wd (w.setCell ⟨p, 2, none⟩ (.int .i8 0)) b 0 (k + 1) f := h1.nt.2.2.2.1.mono h1.nt.1
  have ps := hT.ps
  have p1 := hT.p1
  have p2 := hT.p2
  have hB := bit_any b c (k + 1) (K - 1) f _ hwd (by omega) (by omega)
  have hS := sticky_any b c (k + 1) (K - 1) f _ hwd (by omega) (by omega) h1.nt.1
  have hr0 : vl f (k + 1) % 2 ^ K = vl f (k + 1) / 2 ^ (K - 1) % 2 * 2 ^ (K - 1) + vl f (k + 1) % 2 ^ (K - 1) := (rup_parts _ K hT.K1).1
  rw [hrb] at hB hr0
  rw [hsb, stk_zero] at hS
  have hr : (K : Int) - 1 = ((K - 1 : Nat) : Int) := by omega
  rw [← hr] at hB hS
  have hu : rup (vl f (k + 1)) K = false := rup_zero hT.K1 hrb
  have hR : vl f (k + 1) % 2 ^ K = 0 := by omega
  obtain ⟨w1, w2'⟩ := wrap_two (s := s) (by omega)
  have h1d := h1.still ((Turn.refl (fun _ => False) _).drew)
  obtain ⟨w2, hcp, hcr, hcg⟩ := run_copy_wd (w.setCell ⟨p, 2, none⟩ (.int .i8 0)).drew 3 126 Tryz.underlying126 (zb := b) (zo := 0) (zl := k + 1) (zc := c) (xb := b) (xo := k) (xl := 1) (xc := c - k) (n := 1) (f := f) (x := fun i => f (k + i)) (h1d.nt.2.2.2.1.mono (by have := h1d.nt.1; omega)) (by
    have := h1d.nt.2.2.2.1.sub (k := k) (m := 1) (by have := h1d.nt.1; omega)
    rw [Nat.zero_add] at this; exact this) (by show 1 = min 1 (k + 1); omega)
  have h2 := Fl.head h1d hcr hcg
  have hg0 : (fun j => if j = 0 then (fun i => f (k + i)) 0 else f j) 0 = f k := by simp
  have hb := h2.setLen 1 (by have := h2.nt.1; omega)
  have tB : Turn (fun k => k = p ∨ k = b) w (w2.setCell ⟨p, 5, none⟩ (.slice (some ⟨b, 0, none⟩) 1 c)) := ((((set_turn w p 2 _).mono fun _ _ e => .inl e).drew).trans' (hcr.turn.mono fun _ _ e => .inr e)).trans' ((set_turn w2 p 5 _).mono fun _ _ e => .inl e)
  generalize (fun j => if j = 0 then (fun i => f (k + i)) 0 else f j) = g at hb h2 hg0
  have x5 := (h1d.c5)
  simp only [nv] at x5
  have y5 := h2.c5
  have yz := h2.fz 5
  simp only [nv] at y5
  clear hcr hcg h1d h2
  have hcut : Cut (vl f (k + 1)) K pr s ng ex 0 ex (f k / 2 ^ s * 2 ^ s) := .down hT hu (by rw [if_pos hR])
  have hlast := CRes.last (v := f k / 2 ^ s * 2 ^ s) hb tB (by have := hT.lt; have := Nat.div_mul_le_self (f k) (2 ^ s); omega) hcut
  have hA := andNot_low (a := f k) (K := s) hT.lt (by omega)
  have d2 := h.c2
  have d3 := h.fz 2
  obtain ⟨k0, k1, k2, k3, k4, k5, k6, fz, nt, ap, -⟩ := h1
  simp only [nv] at k5
  have hm : ¬ ((k : Int) + 1) * 64 ≤ pr := by omega
  have hn2 : ((pr : Int) + 63) / 64 = 1 := by omega
  have b1 : bits .and .u64 0 1 = 0 := by decide
  have b1' : bits .and .u64 1 1 = 1 := by decide
  have b2 : bits .or .u64 0 0 = 0 := by decide
  have b3 : bits .or .u64 0 1 = 1 := by decide
  have b4 : bits .or .u64 1 0 = 1 := by decide
  have b5 : bits .or .u64 1 1 = 1 := by decide
  have hK3 : ((k : Int) + 1) * 64 - (pr : Int) = (K : Int) := by omega
  have hK4 : (64 : Int) - (pr : Int) = (s : Int) := by omega
  have hc0 := hb.nt.2.2.2.1 0 (by have := hb.nt.1; omega)
  rw [Nat.zero_add, hg0] at hc0
  obtain ⟨cx, fx, lx⟩ := hc0
  obtain ⟨i0, i1, i2, i3, i4, i5, i6, iz, -, -, -⟩ := hb
  have iz2 := iz 2
  simp only [nv] at i5
  have hkc := nt.1
  replace hlast := Lib.hid hlast
  clear h nt ap fz hwd hr hrb hsb hu hR hr0 hcut lx tB
  clear iz
  clear hT
  replace hg0 := Lib.hid hg0
  replace hK := Lib.hid hK
  generalize vl f (k + 1) = M at *
  generalize f k = T at *
  go_enter Tryz.func175, Tryz.ntmps175
  go_wp2_with (first
    | (go_at_call 196; ((with_reducible refine hB.mono ?_)); rintro e w' ⟨rfl, rfl⟩)
    | (go_at_call 147; ((with_reducible refine hS.mono ?_)); rintro e w' ⟨rfl, rfl⟩))
  go_region
  go_wp2_with (first
    | (go_at_call 196; ((with_reducible refine hB.mono ?_)); rintro e w' ⟨rfl, rfl⟩)
    | (go_at_call 147; ((with_reducible refine hS.mono ?_)); rintro e w' ⟨rfl, rfl⟩))
  refine bodyPost_end (results_none rfl _ _ _) rfl ?_
  exact hlast.out
set_option maxRecDepth 100000 in
set_option maxHeartbeats 4000000 in
theorem cut_many_01 {p pr k : Nat} {acc : Int} {ng : Bool} {f : Nat → Nat} {ex : Int} (b c s K : Nat) (w : World) (h : Fl w p pr acc 1 ng (some (b, c)) (k + 1) f ex) (hk1 : 1 ≤ k) (hk : k ≤ 10000) (hK : K = 64 * k + s) (hT : Top (vl f (k + 1)) K pr s (f k)) (_he : -100000 ≤ ex ∧ ex ≤ 100000)
    (hrb : vl f (k + 1) / 2 ^ (K - 1) % 2 = 0) (hsb : vl f (k + 1) % 2 ^ (K - 1) ≠ 0) :
    Calls Tryz.prog 175 #[.pointer (some ⟨p, 0, none⟩), .int .u64 0] w (CRes w p pr ng b c (vl f (k + 1)) K s ex) := by
  have h1 := h.setAcc 0
  have hne : b ≠ p := fun e => h.ap ⟨c, by rw [e]⟩
  have hwd : Wd (w.setCell ⟨p, 2, none⟩ (.int .i8 0)) b 0 (k + 1) f := h1.nt.2.2.2.1.mono h1.nt.1
  have ps := hT.ps
  have p1 := hT.p1
  have p2 := hT.p2
  have hB := bit_any b c (k + 1) (K - 1) f _ hwd (by omega) (by omega)
  have hS := sticky_any b c (k + 1) (K - 1) f _ hwd (by omega) (by omega) h1.nt.1
  have hr0 : vl f (k + 1) % 2 ^ K = vl f (k + 1) / 2 ^ (K - 1) % 2 * 2 ^ (K - 1) + vl f (k + 1) % 2 ^ (K - 1) := (rup_parts _ K hT.K1).1
  rw [hrb] at hB hr0
  rw [stk_pos hsb] at hS
  have hr : (K : Int) - 1 = ((K - 1 : Nat) : Int) := by omega
  rw [← hr] at hB hS
  have hu : rup (vl f (k + 1)) K = false := rup_zero hT.K1 hrb
  have hR : vl f (k + 1) % 2 ^ K ≠ 0 := by have := Nat.two_pow_pos (K - 1); omega
  obtain ⟨w1, w2'⟩ := wrap_two (s := s) (by omega)
  have h1d := h1.still ((Turn.refl (fun _ => False) _).drew)
  obtain ⟨w2, hcp, hcr, hcg⟩ := run_copy_wd (w.setCell ⟨p, 2, none⟩ (.int .i8 0)).drew 3 126 Tryz.underlying126 (zb := b) (zo := 0) (zl := k + 1) (zc := c) (xb := b) (xo := k) (xl := 1) (xc := c - k) (n := 1) (f := f) (x := fun i => f (k + i)) (h1d.nt.2.2.2.1.mono (by have := h1d.nt.1; omega)) (by
    have := h1d.nt.2.2.2.1.sub (k := k) (m := 1) (by have := h1d.nt.1; omega)
    rw [Nat.zero_add] at this; exact this) (by show 1 = min 1 (k + 1); omega)
  have h2 := Fl.head h1d hcr hcg
  have hg0 : (fun j => if j = 0 then (fun i => f (k + i)) 0 else f j) 0 = f k := by simp
  have hb := h2.setLen 1 (by have := h2.nt.1; omega)
  have tB : Turn (fun k => k = p ∨ k = b) w (w2.setCell ⟨p, 5, none⟩ (.slice (some ⟨b, 0, none⟩) 1 c)) := ((((set_turn w p 2 _).mono fun _ _ e => .inl e).drew).trans' (hcr.turn.mono fun _ _ e => .inr e)).trans' ((set_turn w2 p 5 _).mono fun _ _ e => .inl e)
  generalize (fun j => if j = 0 then (fun i => f (k + i)) 0 else f j) = g at hb h2 hg0
  have x5 := (h1d.c5)
  simp only [nv] at x5
  have y5 := h2.c5
  have yz := h2.fz 5
  simp only [nv] at y5
  clear hcr hcg h1d h2
  obtain ⟨a1, ha1⟩ : ∃ a1, a1 = accOf false ng := ⟨_, rfl⟩
  have hcut : Cut (vl f (k + 1)) K pr s ng ex a1 ex (f k / 2 ^ s * 2 ^ s) := .down hT hu (by rw [if_neg hR]; exact ha1)
  have h3 := hb.setAcc a1
  have hlast := CRes.last (v := f k / 2 ^ s * 2 ^ s) h3 (tB.trans' ((set_turn _ p 2 _).mono fun _ _ e => .inl e)) (by have := hT.lt; have := Nat.div_mul_le_self (f k) (2 ^ s); omega) hcut
  have hA := andNot_low (a := f k) (K := s) hT.lt (by omega)
  have d2 := h.c2
  have d3 := h.fz 2
  obtain ⟨k0, k1, k2, k3, k4, k5, k6, fz, nt, ap, -⟩ := h1
  simp only [nv] at k5
  have hm : ¬ ((k : Int) + 1) * 64 ≤ pr := by omega
  have hn2 : ((pr : Int) + 63) / 64 = 1 := by omega
  have b1 : bits .and .u64 0 1 = 0 := by decide
  have b1' : bits .and .u64 1 1 = 1 := by decide
  have b2 : bits .or .u64 0 0 = 0 := by decide
  have b3 : bits .or .u64 0 1 = 1 := by decide
  have b4 : bits .or .u64 1 0 = 1 := by decide
  have b5 : bits .or .u64 1 1 = 1 := by decide
  have hK3 : ((k : Int) + 1) * 64 - (pr : Int) = (K : Int) := by omega
  have hK4 : (64 : Int) - (pr : Int) = (s : Int) := by omega
  have hc0 := hb.nt.2.2.2.1 0 (by have := hb.nt.1; omega)
  rw [Nat.zero_add, hg0] at hc0
  obtain ⟨cx, fx, lx⟩ := hc0
  obtain ⟨i0, i1, i2, i3, i4, i5, i6, iz, -, -, -⟩ := hb
  have iz2 := iz 2
  simp only [nv] at i5
  have hkc := nt.1
  have hM := makeAcc_any (ng) (w2.setCell ⟨p, 5, none⟩ (.slice (some ⟨b, 0, none⟩) 1 c))
  rw [show (if (ng) = true then (1 : Int) else -1) = a1 by rw [ha1]; cases ng <;> rfl] at hM
  replace h3 := Lib.hid h3
  replace hlast := Lib.hid hlast
  clear h nt ap fz hwd hr hrb hsb hu hR hr0 hcut lx tB ha1
  clear iz
  clear hT
  replace hg0 := Lib.hid hg0
  replace hK := Lib.hid hK
  generalize vl f (k + 1) = M at *
  generalize f k = T at *
  go_enter Tryz.func175, Tryz.ntmps175
  go_wp2_with (first
    | (go_at_call 196; ((with_reducible refine hB.mono ?_)); rintro e w' ⟨rfl, rfl⟩)
    | (go_at_call 147; ((with_reducible refine hS.mono ?_)); rintro e w' ⟨rfl, rfl⟩))
  go_region
  go_wp2_with (first
    | (go_at_call 196; ((with_reducible refine hB.mono ?_)); rintro e w' ⟨rfl, rfl⟩)
    | (go_at_call 147; ((with_reducible refine hS.mono ?_)); rintro e w' ⟨rfl, rfl⟩)
    | (go_at_call 174; ((with_reducible refine hM.mono ?_)); rintro e w' ⟨rfl, rfl⟩))
  refine bodyPost_end (results_none rfl _ _ _) rfl ?_
  exact hlast.out
set_option maxRecDepth 100000 in
set_option maxHeartbeats 4000000 in
theorem cut_many_10e {p pr k : Nat} {acc : Int} {ng : Bool} {f : Nat → Nat} {ex : Int} (b c s K : Nat) (w : World) (h : Fl w p pr acc 1 ng (some (b, c)) (k + 1) f ex) (hk1 : 1 ≤ k) (hk : k ≤ 10000) (hK : K = 64 * k + s) (hT : Top (vl f (k + 1)) K pr s (f k)) (_he : -100000 ≤ ex ∧ ex ≤ 100000)
    (hrb : vl f (k + 1) / 2 ^ (K - 1) % 2 = 1) (hsb : vl f (k + 1) % 2 ^ (K - 1) = 0) (ho : f k / 2 ^ s % 2 ≠ 1) :
    Calls Tryz.prog 175 #[.pointer (some ⟨p, 0, none⟩), .int .u64 0] w (CRes w p pr ng b c (vl f (k + 1)) K s ex) := by
  have h1 := h.setAcc 0
  have hne : b ≠ p := fun e => h.ap ⟨c, by rw [e]⟩
  have hwd : Wd (w.setCell ⟨p, 2, none⟩ (.int .i8 0)) b 0 (k + 1) f := h1.nt.2.2.2.1.mono h1.nt.1
  have ps := hT.ps
  have p1 := hT.p1
  have p2 := hT.p2
  have hB := bit_any b c (k + 1) (K - 1) f _ hwd (by omega) (by omega)
  have hS := sticky_any b c (k + 1) (K - 1) f _ hwd (by omega) (by omega) h1.nt.1
  have hr0 : vl f (k + 1) % 2 ^ K = vl f (k + 1) / 2 ^ (K - 1) % 2 * 2 ^ (K - 1) + vl f (k + 1) % 2 ^ (K - 1) := (rup_parts _ K hT.K1).1
  rw [hrb] at hB hr0
  rw [hsb, stk_zero] at hS
  have hr : (K : Int) - 1 = ((K - 1 : Nat) : Int) := by omega
  rw [← hr] at hB hS
  have hu : rup (vl f (k + 1)) K = false := by rw [rup_one hT.K1 hrb, if_pos hsb, hT.q]; exact decide_eq_false ho
  have hR : vl f (k + 1) % 2 ^ K ≠ 0 := by have := Nat.two_pow_pos (K - 1); omega
  obtain ⟨w1, w2'⟩ := wrap_two (s := s) (by omega)
  have hand := and_pow (T := f k) (s := s) hT.lt (by omega)
  rw [decide_eq_false ho] at hand
  have h1d := h1.still ((Turn.refl (fun _ => False) _).drew)
  obtain ⟨w2, hcp, hcr, hcg⟩ := run_copy_wd (w.setCell ⟨p, 2, none⟩ (.int .i8 0)).drew 3 126 Tryz.underlying126 (zb := b) (zo := 0) (zl := k + 1) (zc := c) (xb := b) (xo := k) (xl := 1) (xc := c - k) (n := 1) (f := f) (x := fun i => f (k + i)) (h1d.nt.2.2.2.1.mono (by have := h1d.nt.1; omega)) (by
    have := h1d.nt.2.2.2.1.sub (k := k) (m := 1) (by have := h1d.nt.1; omega)
    rw [Nat.zero_add] at this; exact this) (by show 1 = min 1 (k + 1); omega)
  have h2 := Fl.head h1d hcr hcg
  have hg0 : (fun j => if j = 0 then (fun i => f (k + i)) 0 else f j) 0 = f k := by simp
  have hb := h2.setLen 1 (by have := h2.nt.1; omega)
  have tB : Turn (fun k => k = p ∨ k = b) w (w2.setCell ⟨p, 5, none⟩ (.slice (some ⟨b, 0, none⟩) 1 c)) := ((((set_turn w p 2 _).mono fun _ _ e => .inl e).drew).trans' (hcr.turn.mono fun _ _ e => .inr e)).trans' ((set_turn w2 p 5 _).mono fun _ _ e => .inl e)
  generalize (fun j => if j = 0 then (fun i => f (k + i)) 0 else f j) = g at hb h2 hg0
  have x5 := (h1d.c5)
  simp only [nv] at x5
  have y5 := h2.c5
  have yz := h2.fz 5
  simp only [nv] at y5
  clear hcr hcg h1d h2
  obtain ⟨a1, ha1⟩ : ∃ a1, a1 = accOf false ng := ⟨_, rfl⟩
  have hcut : Cut (vl f (k + 1)) K pr s ng ex a1 ex (f k / 2 ^ s * 2 ^ s) := .down hT hu (by rw [if_neg hR]; exact ha1)
  have h3 := hb.setAcc a1
  have hlast := CRes.last (v := f k / 2 ^ s * 2 ^ s) h3 (tB.trans' ((set_turn _ p 2 _).mono fun _ _ e => .inl e)) (by have := hT.lt; have := Nat.div_mul_le_self (f k) (2 ^ s); omega) hcut
  have hA := andNot_low (a := f k) (K := s) hT.lt (by omega)
  have d2 := h.c2
  have d3 := h.fz 2
  obtain ⟨k0, k1, k2, k3, k4, k5, k6, fz, nt, ap, -⟩ := h1
  simp only [nv] at k5
  have hm : ¬ ((k : Int) + 1) * 64 ≤ pr := by omega
  have hn2 : ((pr : Int) + 63) / 64 = 1 := by omega
  have b1 : bits .and .u64 0 1 = 0 := by decide
  have b1' : bits .and .u64 1 1 = 1 := by decide
  have b2 : bits .or .u64 0 0 = 0 := by decide
  have b3 : bits .or .u64 0 1 = 1 := by decide
  have b4 : bits .or .u64 1 0 = 1 := by decide
  have b5 : bits .or .u64 1 1 = 1 := by decide
  have hK3 : ((k : Int) + 1) * 64 - (pr : Int) = (K : Int) := by omega
  have hK4 : (64 : Int) - (pr : Int) = (s : Int) := by omega
  have hc0 := hb.nt.2.2.2.1 0 (by have := hb.nt.1; omega)
  rw [Nat.zero_add, hg0] at hc0
  obtain ⟨cx, fx, lx⟩ := hc0
  obtain ⟨i0, i1, i2, i3, i4, i5, i6, iz, -, -, -⟩ := hb
  have iz2 := iz 2
  simp only [nv] at i5
  have hkc := nt.1
  have hM := makeAcc_any (ng) (w2.setCell ⟨p, 5, none⟩ (.slice (some ⟨b, 0, none⟩) 1 c))
  rw [show (if (ng) = true then (1 : Int) else -1) = a1 by rw [ha1]; cases ng <;> rfl] at hM
  replace h3 := Lib.hid h3
  replace hlast := Lib.hid hlast
  clear h nt ap fz hwd hr hrb hsb hu hR hr0 hcut lx tB ha1
  clear iz
  clear ho
  clear hT
  replace hg0 := Lib.hid hg0
  replace hK := Lib.hid hK
  generalize vl f (k + 1) = M at *
  generalize f k = T at *
  go_enter Tryz.func175, Tryz.ntmps175
  go_wp2_with (first
    | (go_at_call 196; ((with_reducible refine hB.mono ?_)); rintro e w' ⟨rfl, rfl⟩)
    | (go_at_call 147; ((with_reducible refine hS.mono ?_)); rintro e w' ⟨rfl, rfl⟩))
  go_region
  go_wp2_with (first
    | (go_at_call 196; ((with_reducible refine hB.mono ?_)); rintro e w' ⟨rfl, rfl⟩)
    | (go_at_call 147; ((with_reducible refine hS.mono ?_)); rintro e w' ⟨rfl, rfl⟩)
    | (go_at_call 174; ((with_reducible refine hM.mono ?_)); rintro e w' ⟨rfl, rfl⟩))
  refine bodyPost_end (results_none rfl _ _ _) rfl ?_
  exact hlast.out
set_option maxRecDepth 100000 in
set_option maxHeartbeats 4000000 in
theorem cut_many_10o {p pr k : Nat} {acc : Int} {ng : Bool} {f : Nat → Nat} {ex : Int} (b c s K : Nat) (w : World) (h : Fl w p pr acc 1 ng (some (b, c)) (k + 1) f ex) (hk1 : 1 ≤ k) (hk : k ≤ 10000) (hK : K = 64 * k + s) (hT : Top (vl f (k + 1)) K pr s (f k)) (_he : -100000 ≤ ex ∧ ex ≤ 100000)
    (hrb : vl f (k + 1) / 2 ^ (K - 1) % 2 = 1) (hsb : vl f (k + 1) % 2 ^ (K - 1) = 0) (ho : f k / 2 ^ s % 2 = 1) (hc : f k + 2 ^ s < 18446744073709551616) :
    Calls Tryz.prog 175 #[.pointer (some ⟨p, 0, none⟩), .int .u64 0] w (CRes w p pr ng b c (vl f (k + 1)) K s ex) := by
  have h1 := h.setAcc 0
  have hne : b ≠ p := fun e => h.ap ⟨c, by rw [e]⟩
  have hwd : Wd (w.setCell ⟨p, 2, none⟩ (.int .i8 0)) b 0 (k + 1) f := h1.nt.2.2.2.1.mono h1.nt.1
  have ps := hT.ps
  have p1 := hT.p1
  have p2 := hT.p2
  have hB := bit_any b c (k + 1) (K - 1) f _ hwd (by omega) (by omega)
  have hS := sticky_any b c (k + 1) (K - 1) f _ hwd (by omega) (by omega) h1.nt.1
  have hr0 : vl f (k + 1) % 2 ^ K = vl f (k + 1) / 2 ^ (K - 1) % 2 * 2 ^ (K - 1) + vl f (k + 1) % 2 ^ (K - 1) := (rup_parts _ K hT.K1).1
  rw [hrb] at hB hr0
  rw [hsb, stk_zero] at hS
  have hr : (K : Int) - 1 = ((K - 1 : Nat) : Int) := by omega
  rw [← hr] at hB hS
  have hu : rup (vl f (k + 1)) K = true := by rw [rup_one hT.K1 hrb, if_pos hsb, hT.q]; exact decide_eq_true ho
  have hR : vl f (k + 1) % 2 ^ K ≠ 0 := by have := Nat.two_pow_pos (K - 1); omega
  obtain ⟨w1, w2'⟩ := wrap_two (s := s) (by omega)
  have hand := and_pow (T := f k) (s := s) hT.lt (by omega)
  rw [decide_eq_true ho] at hand
  have h1d := h1.still ((Turn.refl (fun _ => False) _).drew)
  obtain ⟨w2, hcp, hcr, hcg⟩ := run_copy_wd (w.setCell ⟨p, 2, none⟩ (.int .i8 0)).drew 3 126 Tryz.underlying126 (zb := b) (zo := 0) (zl := k + 1) (zc := c) (xb := b) (xo := k) (xl := 1) (xc := c - k) (n := 1) (f := f) (x := fun i => f (k + i)) (h1d.nt.2.2.2.1.mono (by have := h1d.nt.1; omega)) (by
    have := h1d.nt.2.2.2.1.sub (k := k) (m := 1) (by have := h1d.nt.1; omega)
    rw [Nat.zero_add] at this; exact this) (by show 1 = min 1 (k + 1); omega)
  have h2 := Fl.head h1d hcr hcg
  have hg0 : (fun j => if j = 0 then (fun i => f (k + i)) 0 else f j) 0 = f k := by simp
  have hb := h2.setLen 1 (by have := h2.nt.1; omega)
  have tB : Turn (fun k => k = p ∨ k = b) w (w2.setCell ⟨p, 5, none⟩ (.slice (some ⟨b, 0, none⟩) 1 c)) := ((((set_turn w p 2 _).mono fun _ _ e => .inl e).drew).trans' (hcr.turn.mono fun _ _ e => .inr e)).trans' ((set_turn w2 p 5 _).mono fun _ _ e => .inl e)
  generalize (fun j => if j = 0 then (fun i => f (k + i)) 0 else f j) = g at hb h2 hg0
  have x5 := (h1d.c5)
  simp only [nv] at x5
  have y5 := h2.c5
  have yz := h2.fz 5
  simp only [nv] at y5
  clear hcr hcg h1d h2
  obtain ⟨a1, ha1⟩ : ∃ a1, a1 = accOf true ng := ⟨_, rfl⟩
  have h3 := hb.setAcc a1
  have t3 : Turn (fun k => k = p ∨ k = b) w ((w2.setCell ⟨p, 5, none⟩ (.slice (some ⟨b, 0, none⟩) 1 c)).setCell ⟨p, 2, none⟩ (.int .i8 a1)) := tB.trans' ((set_turn _ p 2 _).mono fun _ _ e => .inl e)
  have h3d := h3.still ((Turn.refl (fun _ => False) _).drew)
  have hle : 2 ^ s < 18446744073709551616 := by
    have : (2 : Nat) ^ s ≤ 2 ^ 63 := Nat.pow_le_pow_right (by omega) (by omega)
    rw [pw63] at this
    omega
  have hA : Calls Tryz.prog 187 #[.slice (some ⟨b, 0, none⟩) 1 c, .slice (some ⟨b, 0, none⟩) 1 c, .int .u64 (2 ^ s)] ((w2.setCell ⟨p, 5, none⟩ (.slice (some ⟨b, 0, none⟩) 1 c)).setCell ⟨p, 2, none⟩ (.int .i8 a1)).drew (AwPost b 0 1 (2 ^ s) g ((w2.setCell ⟨p, 5, none⟩ (.slice (some ⟨b, 0, none⟩) 1 c)).setCell ⟨p, 2, none⟩ (.int .i8 a1)).drew) := by
    rw [← two_pow_i]; exact addVW_same b 0 c c 0 (2 ^ s) g _ (by omega) (h3d.nt.2.2.2.1.mono h3d.nt.1) hle
  obtain ⟨j0, j1, j2, j3, j4, j5, j6, jz, jt, jp, -⟩ := h3d
  simp only [nv] at j5
  have hpl := h.lt
  have hpl2 : p < ((w2.setCell ⟨p, 5, none⟩ (.slice (some ⟨b, 0, none⟩) 1 c)).setCell ⟨p, 2, none⟩ (.int .i8 a1)).drew.heap.size := Nat.lt_of_lt_of_le hpl t3.size
  have ep : p ≠ b := fun e => hne e.symm
  obtain ⟨U, hU⟩ : ∃ U, U = (f k + 2 ^ s) % 18446744073709551616 := ⟨_, rfl⟩
  have haw : aw g (2 ^ s) 0 = U := by show (g 0 + 2 ^ s) % _ = U; rw [hg0, hU]
  have hUl : U < 18446744073709551616 := by rw [hU]; exact Nat.mod_lt _ (by omega)
  have hac : acr g (2 ^ s) 1 = 0 := by show (g 0 + 2 ^ s) / _ = 0; rw [hg0]; exact Nat.div_eq_of_lt hc
  have hUe : U = f k + 2 ^ s := by rw [hU]; exact Nat.mod_eq_of_lt hc
  have hcut : Cut (vl f (k + 1)) K pr s ng ex a1 ex (U / 2 ^ s * 2 ^ s) := by rw [hUe]; exact .up hT hu ha1 hR hc
  have hN := andNot_low (a := U) (K := s) hUl (by omega)
  have hlast := Lib.hid fun wa (r : Rw b 0 1 ((w2.setCell ⟨p, 5, none⟩ (.slice (some ⟨b, 0, none⟩) 1 c)).setCell ⟨p, 2, none⟩ (.int .i8 a1)).drew wa) (g' : Wd wa b 0 1 (aw g (2 ^ s))) =>
    CRes.last (v := U / 2 ^ s * 2 ^ s) (Fl.head (h3.still ((Turn.refl (fun _ => False) _).drew)) r g') (t3.drew.trans' (r.turn.mono fun _ _ e => .inr e)) (Nat.lt_of_le_of_lt (Nat.div_mul_le_self _ _) hUl) hcut
  have d2 := h.c2
  have d3 := h.fz 2
  obtain ⟨k0, k1, k2, k3, k4, k5, k6, fz, nt, ap, -⟩ := h1
  simp only [nv] at k5
  have hm : ¬ ((k : Int) + 1) * 64 ≤ pr := by omega
  have hn2 : ((pr : Int) + 63) / 64 = 1 := by omega
  have b1 : bits .and .u64 0 1 = 0 := by decide
  have b1' : bits .and .u64 1 1 = 1 := by decide
  have b2 : bits .or .u64 0 0 = 0 := by decide
  have b3 : bits .or .u64 0 1 = 1 := by decide
  have b4 : bits .or .u64 1 0 = 1 := by decide
  have b5 : bits .or .u64 1 1 = 1 := by decide
  have hK3 : ((k : Int) + 1) * 64 - (pr : Int) = (K : Int) := by omega
  have hK4 : (64 : Int) - (pr : Int) = (s : Int) := by omega
  have hc0 := hb.nt.2.2.2.1 0 (by have := hb.nt.1; omega)
  rw [Nat.zero_add, hg0] at hc0
  obtain ⟨cx, fx, lx⟩ := hc0
  obtain ⟨i0, i1, i2, i3, i4, i5, i6, iz, -, -, -⟩ := hb
  have iz2 := iz 2
  simp only [nv] at i5
  have hkc := nt.1
  have hM := makeAcc_any (!ng) (w2.setCell ⟨p, 5, none⟩ (.slice (some ⟨b, 0, none⟩) 1 c))
  rw [show (if (!ng) = true then (1 : Int) else -1) = a1 by rw [ha1]; cases ng <;> rfl] at hM
  replace h3 := Lib.hid h3
  replace t3 := Lib.hid t3
  replace haw := Lib.hid haw
  replace hac := Lib.hid hac
  clear h nt ap fz hwd hr hrb hsb hu hR hr0 hcut lx tB ha1
  clear iz
  clear ho
  clear jz jt jp hU
  clear hT
  clear hUe hc
  replace hg0 := Lib.hid hg0
  replace hK := Lib.hid hK
  generalize vl f (k + 1) = M at *
  generalize hTT : f k = T at *
  replace hTT := Lib.hid hTT
  go_enter Tryz.func175, Tryz.ntmps175
  go_wp2_with (first
    | (go_at_call 196; ((with_reducible refine hB.mono ?_)); rintro e w' ⟨rfl, rfl⟩)
    | (go_at_call 147; ((with_reducible refine hS.mono ?_)); rintro e w' ⟨rfl, rfl⟩))
  go_region
  go_wp2_with (first
    | (go_at_call 196; ((with_reducible refine hB.mono ?_)); rintro e w' ⟨rfl, rfl⟩)
    | (go_at_call 147; ((with_reducible refine hS.mono ?_)); rintro e w' ⟨rfl, rfl⟩)
    | (go_at_call 174; ((with_reducible refine hM.mono ?_)); rintro e w' ⟨rfl, rfl⟩))
  go_region_law ((go_simp; go_at_call 187; ((with_reducible refine hA.mono ?_)); rintro e wa ⟨rfl, g1, g2⟩
                  rw [hac.out]
                  have l5 := (g1.turn.cell (p := ⟨p, 5, none⟩) hpl2 ep).trans j5
                  have g0 := g2 0 (by omega)
                  rw [haw.out, Nat.zero_add] at g0
                  obtain ⟨m0, m1, -⟩ := g0
                  have hl2 := Lib.hid (hlast.out wa g1 g2)
                  clear g1 g2))
  all_goals go_wp2_with fail
  all_goals (refine bodyPost_end (results_none rfl _ _ _) rfl ?_; exact hl2.out)
set_option maxRecDepth 100000 in
set_option maxHeartbeats 4000000 in
theorem cut_many_10v {p pr k : Nat} {acc : Int} {ng : Bool} {f : Nat → Nat} {ex : Int} (b c s K : Nat) (w : World) (h : Fl w p pr acc 1 ng (some (b, c)) (k + 1) f ex) (hk1 : 1 ≤ k) (hk : k ≤ 10000) (hK : K = 64 * k + s) (hT : Top (vl f (k + 1)) K pr s (f k)) (_he : -100000 ≤ ex ∧ ex ≤ 100000)
    (hrb : vl f (k + 1) / 2 ^ (K - 1) % 2 = 1) (hsb : vl f (k + 1) % 2 ^ (K - 1) = 0) (ho : f k / 2 ^ s % 2 = 1) (hc : 18446744073709551616 ≤ f k + 2 ^ s) :
    Calls Tryz.prog 175 #[.pointer (some ⟨p, 0, none⟩), .int .u64 0] w (CRes w p pr ng b c (vl f (k + 1)) K s ex) := by
  have h1 := h.setAcc 0
  have hne : b ≠ p := fun e => h.ap ⟨c, by rw [e]⟩
  have hwd : Wd (w.setCell ⟨p, 2, none⟩ (.int .i8 0)) b 0 (k + 1) f := h1.nt.2.2.2.1.mono h1.nt.1
  have ps := hT.ps
  have p1 := hT.p1
  have p2 := hT.p2
  have hB := bit_any b c (k + 1) (K - 1) f _ hwd (by omega) (by omega)
  have hS := sticky_any b c (k + 1) (K - 1) f _ hwd (by omega) (by omega) h1.nt.1
  have hr0 : vl f (k + 1) % 2 ^ K = vl f (k + 1) / 2 ^ (K - 1) % 2 * 2 ^ (K - 1) + vl f (k + 1) % 2 ^ (K - 1) := (rup_parts _ K hT.K1).1
  rw [hrb] at hB hr0
  rw [hsb, stk_zero] at hS
  have hr : (K : Int) - 1 = ((K - 1 : Nat) : Int) := by omega
  rw [← hr] at hB hS
  have hu : rup (vl f (k + 1)) K = true := by rw [rup_one hT.K1 hrb, if_pos hsb, hT.q]; exact decide_eq_true ho
  have hR : vl f (k + 1) % 2 ^ K ≠ 0 := by have := Nat.two_pow_pos (K - 1); omega
  obtain ⟨w1, w2'⟩ := wrap_two (s := s) (by omega)
  have hand := and_pow (T := f k) (s := s) hT.lt (by omega)
  rw [decide_eq_true ho] at hand
  have h1d := h1.still ((Turn.refl (fun _ => False) _).drew)
  obtain ⟨w2, hcp, hcr, hcg⟩ := run_copy_wd (w.setCell ⟨p, 2, none⟩ (.int .i8 0)).drew 3 126 Tryz.underlying126 (zb := b) (zo := 0) (zl := k + 1) (zc := c) (xb := b) (xo := k) (xl := 1) (xc := c - k) (n := 1) (f := f) (x := fun i => f (k + i)) (h1d.nt.2.2.2.1.mono (by have := h1d.nt.1; omega)) (by
    have := h1d.nt.2.2.2.1.sub (k := k) (m := 1) (by have := h1d.nt.1; omega)
    rw [Nat.zero_add] at this; exact this) (by show 1 = min 1 (k + 1); omega)
  have h2 := Fl.head h1d hcr hcg
  have hg0 : (fun j => if j = 0 then (fun i => f (k + i)) 0 else f j) 0 = f k := by simp
  have hb := h2.setLen 1 (by have := h2.nt.1; omega)
  have tB : Turn (fun k => k = p ∨ k = b) w (w2.setCell ⟨p, 5, none⟩ (.slice (some ⟨b, 0, none⟩) 1 c)) := ((((set_turn w p 2 _).mono fun _ _ e => .inl e).drew).trans' (hcr.turn.mono fun _ _ e => .inr e)).trans' ((set_turn w2 p 5 _).mono fun _ _ e => .inl e)
  generalize (fun j => if j = 0 then (fun i => f (k + i)) 0 else f j) = g at hb h2 hg0
  have x5 := (h1d.c5)
  simp only [nv] at x5
  have y5 := h2.c5
  have yz := h2.fz 5
  simp only [nv] at y5
  clear hcr hcg h1d h2
  obtain ⟨a1, ha1⟩ : ∃ a1, a1 = accOf true ng := ⟨_, rfl⟩
  have h3 := hb.setAcc a1
  have t3 : Turn (fun k => k = p ∨ k = b) w ((w2.setCell ⟨p, 5, none⟩ (.slice (some ⟨b, 0, none⟩) 1 c)).setCell ⟨p, 2, none⟩ (.int .i8 a1)) := tB.trans' ((set_turn _ p 2 _).mono fun _ _ e => .inl e)
  have h3d := h3.still ((Turn.refl (fun _ => False) _).drew)
  have hle : 2 ^ s < 18446744073709551616 := by
    have : (2 : Nat) ^ s ≤ 2 ^ 63 := Nat.pow_le_pow_right (by omega) (by omega)
    rw [pw63] at this
    omega
  have hA : Calls Tryz.prog 187 #[.slice (some ⟨b, 0, none⟩) 1 c, .slice (some ⟨b, 0, none⟩) 1 c, .int .u64 (2 ^ s)] ((w2.setCell ⟨p, 5, none⟩ (.slice (some ⟨b, 0, none⟩) 1 c)).setCell ⟨p, 2, none⟩ (.int .i8 a1)).drew (AwPost b 0 1 (2 ^ s) g ((w2.setCell ⟨p, 5, none⟩ (.slice (some ⟨b, 0, none⟩) 1 c)).setCell ⟨p, 2, none⟩ (.int .i8 a1)).drew) := by
    rw [← two_pow_i]; exact addVW_same b 0 c c 0 (2 ^ s) g _ (by omega) (h3d.nt.2.2.2.1.mono h3d.nt.1) hle
  obtain ⟨j0, j1, j2, j3, j4, j5, j6, jz, jt, jp, -⟩ := h3d
  simp only [nv] at j5
  have hpl := h.lt
  have hpl2 : p < ((w2.setCell ⟨p, 5, none⟩ (.slice (some ⟨b, 0, none⟩) 1 c)).setCell ⟨p, 2, none⟩ (.int .i8 a1)).drew.heap.size := Nat.lt_of_lt_of_le hpl t3.size
  have ep : p ≠ b := fun e => hne e.symm
  obtain ⟨U, hU⟩ : ∃ U, U = (f k + 2 ^ s) % 18446744073709551616 := ⟨_, rfl⟩
  have haw : aw g (2 ^ s) 0 = U := by show (g 0 + 2 ^ s) % _ = U; rw [hg0, hU]
  have hUl : U < 18446744073709551616 := by rw [hU]; exact Nat.mod_lt _ (by omega)
  have hac : acr g (2 ^ s) 1 = 1 := by
    show (g 0 + 2 ^ s) / 18446744073709551616 = 1
    rw [hg0]
    have := hT.lt
    omega
  obtain ⟨hov, hzl⟩ := over_word hT hc
  rw [← hU] at hov hzl
  have hcut : Cut (vl f (k + 1)) K pr s ng ex a1 (ex + 1) (2 ^ 63) := .over hT hu ha1 hR hc
  obtain ⟨Z, hZ⟩ : ∃ Z, Z = U / 2 := ⟨_, rfl⟩
  rw [← hZ] at hov hzl
  obtain ⟨V, hV⟩ : ∃ V, V = Z ||| 9223372036854775808 := ⟨_, rfl⟩
  have hVl : V < 18446744073709551616 := by rw [hV]; exact Nat.or_lt_two_pow (n := 64) (by omega) (by omega)
  have hO : bits .or .u64 (Z : Int) 9223372036854775808 = (V : Int) := by rw [hV]; exact u64_or_nat Z 9223372036854775808 (by omega) (by omega)
  rw [← hV] at hov
  have hN := andNot_low (a := V) (K := s) hVl (by omega)
  rw [hov, show ((2 ^ 63 : Nat) : Int) = 9223372036854775808 by decide] at hN
  have tw := tw190
  have he1 : ¬ (2147483647 : Int) ≤ ex := by omega
  have he2 : IntKind.i32.wrap (ex + 1) = ex + 1 := IntWalk.i32_in _ (by omega)
  have hlast := Lib.hid fun wa (r : Rw b 0 1 ((w2.setCell ⟨p, 5, none⟩ (.slice (some ⟨b, 0, none⟩) 1 c)).setCell ⟨p, 2, none⟩ (.int .i8 a1)).drew wa) (g' : Wd wa b 0 1 (aw g (2 ^ s))) =>
    (show Fl (wa.setCell ⟨p, 6, none⟩ (.int .i32 (ex + 1))).drew p pr a1 1 ng (some (b, c)) 1 _ (ex + 1) ∧ Turn (fun k => k = p ∨ k = b) w (wa.setCell ⟨p, 6, none⟩ (.int .i32 (ex + 1))).drew from
      ⟨((Fl.head (h3.still ((Turn.refl (fun _ => False) _).drew)) r g').setExp (ex + 1)).still ((Turn.refl (fun _ => False) _).drew), (t3.drew.trans' (r.turn.mono fun _ _ e => .inr e)).trans' (((set_turn wa p 6 _).mono fun _ _ e => .inl e).drew)⟩)
  have hend := Lib.hid fun (wb W : World) (g' : Nat → Nat) (h5 : Fl W p pr a1 1 ng (some (b, c)) 1 g' (ex + 1)) (t5 : Turn (fun k => k = p ∨ k = b) w W) (r : Rw b 0 1 W wb) (gg : Wd wb b 0 1 (rw' g' 0 1 63)) =>
    (show CRes w p pr ng b c (vl f (k + 1)) K s ex (.returned (.tuple #[])) ((wb.setCell ⟨b, 0, none⟩ (.int .u64 (V : Nat))).setCell ⟨b, 0, none⟩ (.int .u64 ((2 ^ 63 : Nat) : Int))) from
      CRes.last (v := 2 ^ 63) ((Fl.head h5 r gg).word (k := 0) (by have := h5.nt.1; omega) hVl) ((t5.trans' (r.turn.mono fun _ _ e => .inr e)).trans' ((set_turn wb b 0 _).mono fun _ _ e => .inr e)) (by omega) hcut)
  rw [show ((2 ^ 63 : Nat) : Int) = 9223372036854775808 by decide] at hend
  have d2 := h.c2
  have d3 := h.fz 2
  obtain ⟨k0, k1, k2, k3, k4, k5, k6, fz, nt, ap, -⟩ := h1
  simp only [nv] at k5
  have hm : ¬ ((k : Int) + 1) * 64 ≤ pr := by omega
  have hn2 : ((pr : Int) + 63) / 64 = 1 := by omega
  have b1 : bits .and .u64 0 1 = 0 := by decide
  have b1' : bits .and .u64 1 1 = 1 := by decide
  have b2 : bits .or .u64 0 0 = 0 := by decide
  have b3 : bits .or .u64 0 1 = 1 := by decide
  have b4 : bits .or .u64 1 0 = 1 := by decide
  have b5 : bits .or .u64 1 1 = 1 := by decide
  have hK3 : ((k : Int) + 1) * 64 - (pr : Int) = (K : Int) := by omega
  have hK4 : (64 : Int) - (pr : Int) = (s : Int) := by omega
  have hc0 := hb.nt.2.2.2.1 0 (by have := hb.nt.1; omega)
  rw [Nat.zero_add, hg0] at hc0
  obtain ⟨cx, fx, lx⟩ := hc0
  obtain ⟨i0, i1, i2, i3, i4, i5, i6, iz, -, -, -⟩ := hb
  have iz2 := iz 2
  simp only [nv] at i5
  have hkc := nt.1
  have hM := makeAcc_any (!ng) (w2.setCell ⟨p, 5, none⟩ (.slice (some ⟨b, 0, none⟩) 1 c))
  rw [show (if (!ng) = true then (1 : Int) else -1) = a1 by rw [ha1]; cases ng <;> rfl] at hM
  replace h3 := Lib.hid h3
  replace t3 := Lib.hid t3
  replace haw := Lib.hid haw
  replace hac := Lib.hid hac
  clear h nt ap fz hwd hr hrb hsb hu hR hr0 hcut lx tB ha1
  clear iz
  clear ho
  clear jz jt jp hU
  clear hT
  replace hZ := Lib.hid hZ
  clear hV hov hc
  replace hg0 := Lib.hid hg0
  replace hK := Lib.hid hK
  generalize vl f (k + 1) = M at *
  generalize hTT : f k = T at *
  replace hTT := Lib.hid hTT
  go_enter Tryz.func175, Tryz.ntmps175
  go_wp2_with (first
    | (go_at_call 196; ((with_reducible refine hB.mono ?_)); rintro e w' ⟨rfl, rfl⟩)
    | (go_at_call 147; ((with_reducible refine hS.mono ?_)); rintro e w' ⟨rfl, rfl⟩))
  go_region
  go_wp2_with (first
    | (go_at_call 196; ((with_reducible refine hB.mono ?_)); rintro e w' ⟨rfl, rfl⟩)
    | (go_at_call 147; ((with_reducible refine hS.mono ?_)); rintro e w' ⟨rfl, rfl⟩)
    | (go_at_call 174; ((with_reducible refine hM.mono ?_)); rintro e w' ⟨rfl, rfl⟩))
  go_region_law ((go_simp; go_at_call 187; ((with_reducible refine hA.mono ?_)); rintro e wa ⟨rfl, g1, g2⟩
                  rw [hac.out]
                  have l5 := (g1.turn.cell (p := ⟨p, 5, none⟩) hpl2 ep).trans j5
                  have l6 := (g1.turn.cell (p := ⟨p, 6, none⟩) hpl2 ep).trans j6
                  have lz := (g1.turn.frozen (p := ⟨p, 6, none⟩) hpl2 ep).trans (h3.out.fz 6)
                  have hl2 := hlast.out wa g1 g2
                  obtain ⟨h5, t5⟩ := hl2
                  have hw5 : Wd _ b 0 1 _ := h5.nt.2.2.2.1.mono h5.nt.1
                  have hR1 : Calls Tryz.prog 89 #[.slice (some ⟨b, 0, none⟩) 1 c, .slice (some ⟨b, 0, none⟩) 1 c, .int .u64 1] _ _ := rsh_call b c b 0 c 1 1 63 _ _ _ (by omega) (by omega) hw5 hw5 rfl (by omega) (by omega)
                  have i5 := h5.c5
                  simp only [nv] at i5
                  have hpl5 := h5.lt
                  have hfin := Lib.hid fun wb => hend.out wb _ _ h5 t5
                  replace h5 := Lib.hid h5
                  clear hlast g1 g2 hw5))
  all_goals go_wp2_with fail
  all_goals go_region_law ((go_simp; go_at_call 89; ((with_reducible refine hR1.mono ?_)); rintro e wb ⟨v, rfl, g3, g4⟩
                            have l7 := (g3.turn.cell (p := ⟨p, 5, none⟩) hpl5 ep).trans i5
                            have hlast2 := Lib.hid (hfin.out wb g3 g4)
                            have g5 := g4 0 (by omega)
                            rw [show rw' _ (1 - 1) 1 63 0 = Z from by rw [hZ.out, ← haw.out]; rfl, Nat.zero_add] at g5
                            obtain ⟨m0, m1, -⟩ := g5
                            clear g3 g4 hfin))
  all_goals go_wp2_with fail
  all_goals (refine bodyPost_end (results_none rfl _ _ _) rfl ?_; exact hlast2.out)
set_option maxRecDepth 100000 in
set_option maxHeartbeats 4000000 in
theorem cut_many_11 {p pr k : Nat} {acc : Int} {ng : Bool} {f : Nat → Nat} {ex : Int} (b c s K : Nat) (w : World) (h : Fl w p pr acc 1 ng (some (b, c)) (k + 1) f ex) (hk1 : 1 ≤ k) (hk : k ≤ 10000) (hK : K = 64 * k + s) (hT : Top (vl f (k + 1)) K pr s (f k)) (_he : -100000 ≤ ex ∧ ex ≤ 100000)
    (hrb : vl f (k + 1) / 2 ^ (K - 1) % 2 = 1) (hsb : vl f (k + 1) % 2 ^ (K - 1) ≠ 0) (hc : f k + 2 ^ s < 18446744073709551616) :
    Calls Tryz.prog 175 #[.pointer (some ⟨p, 0, none⟩), .int .u64 0] w (CRes w p pr ng b c (vl f (k + 1)) K s ex) := by
  have h1 := h.setAcc 0
  have hne : b ≠ p := fun e => h.ap ⟨c, by rw [e]⟩
  have hwd : Wd (w.setCell ⟨p, 2, none⟩ (.int .i8 0)) b 0 (k + 1) f := h1.nt.2.2.2.1.mono h1.nt.1
  have ps := hT.ps
  have p1 := hT.p1
  have p2 := hT.p2
  have hB := bit_any b c (k + 1) (K - 1) f _ hwd (by omega) (by omega)
  have hS := sticky_any b c (k + 1) (K - 1) f _ hwd (by omega) (by omega) h1.nt.1
  have hr0 : vl f (k + 1) % 2 ^ K = vl f (k + 1) / 2 ^ (K - 1) % 2 * 2 ^ (K - 1) + vl f (k + 1) % 2 ^ (K - 1) := (rup_parts _ K hT.K1).1
  rw [hrb] at hB hr0
  rw [stk_pos hsb] at hS
  have hr : (K : Int) - 1 = ((K - 1 : Nat) : Int) := by omega
  rw [← hr] at hB hS
  have hu : rup (vl f (k + 1)) K = true := by rw [rup_one hT.K1 hrb, if_neg hsb]
  have hR : vl f (k + 1) % 2 ^ K ≠ 0 := by have := Nat.two_pow_pos (K - 1); omega
  obtain ⟨w1, w2'⟩ := wrap_two (s := s) (by omega)
  have h1d := h1.still ((Turn.refl (fun _ => False) _).drew)
  obtain ⟨w2, hcp, hcr, hcg⟩ := run_copy_wd (w.setCell ⟨p, 2, none⟩ (.int .i8 0)).drew 3 126 Tryz.underlying126 (zb := b) (zo := 0) (zl := k + 1) (zc := c) (xb := b) (xo := k) (xl := 1) (xc := c - k) (n := 1) (f := f) (x := fun i => f (k + i)) (h1d.nt.2.2.2.1.mono (by have := h1d.nt.1; omega)) (by
    have := h1d.nt.2.2.2.1.sub (k := k) (m := 1) (by have := h1d.nt.1; omega)
    rw [Nat.zero_add] at this; exact this) (by show 1 = min 1 (k + 1); omega)
  have h2 := Fl.head h1d hcr hcg
  have hg0 : (fun j => if j = 0 then (fun i => f (k + i)) 0 else f j) 0 = f k := by simp
  have hb := h2.setLen 1 (by have := h2.nt.1; omega)
  have tB : Turn (fun k => k = p ∨ k = b) w (w2.setCell ⟨p, 5, none⟩ (.slice (some ⟨b, 0, none⟩) 1 c)) := ((((set_turn w p 2 _).mono fun _ _ e => .inl e).drew).trans' (hcr.turn.mono fun _ _ e => .inr e)).trans' ((set_turn w2 p 5 _).mono fun _ _ e => .inl e)
  generalize (fun j => if j = 0 then (fun i => f (k + i)) 0 else f j) = g at hb h2 hg0
  have x5 := (h1d.c5)
  simp only [nv] at x5
  have y5 := h2.c5
  have yz := h2.fz 5
  simp only [nv] at y5
  clear hcr hcg h1d h2
  obtain ⟨a1, ha1⟩ : ∃ a1, a1 = accOf true ng := ⟨_, rfl⟩
  have h3 := hb.setAcc a1
  have t3 : Turn (fun k => k = p ∨ k = b) w ((w2.setCell ⟨p, 5, none⟩ (.slice (some ⟨b, 0, none⟩) 1 c)).setCell ⟨p, 2, none⟩ (.int .i8 a1)) := tB.trans' ((set_turn _ p 2 _).mono fun _ _ e => .inl e)
  have h3d := h3.still ((Turn.refl (fun _ => False) _).drew)
  have hle : 2 ^ s < 18446744073709551616 := by
    have : (2 : Nat) ^ s ≤ 2 ^ 63 := Nat.pow_le_pow_right (by omega) (by omega)
    rw [pw63] at this
    omega
  have hA : Calls Tryz.prog 187 #[.slice (some ⟨b, 0, none⟩) 1 c, .slice (some ⟨b, 0, none⟩) 1 c, .int .u64 (2 ^ s)] ((w2.setCell ⟨p, 5, none⟩ (.slice (some ⟨b, 0, none⟩) 1 c)).setCell ⟨p, 2, none⟩ (.int .i8 a1)).drew (AwPost b 0 1 (2 ^ s) g ((w2.setCell ⟨p, 5, none⟩ (.slice (some ⟨b, 0, none⟩) 1 c)).setCell ⟨p, 2, none⟩ (.int .i8 a1)).drew) := by
    rw [← two_pow_i]; exact addVW_same b 0 c c 0 (2 ^ s) g _ (by omega) (h3d.nt.2.2.2.1.mono h3d.nt.1) hle
  obtain ⟨j0, j1, j2, j3, j4, j5, j6, jz, jt, jp, -⟩ := h3d
  simp only [nv] at j5
  have hpl := h.lt
  have hpl2 : p < ((w2.setCell ⟨p, 5, none⟩ (.slice (some ⟨b, 0, none⟩) 1 c)).setCell ⟨p, 2, none⟩ (.int .i8 a1)).drew.heap.size := Nat.lt_of_lt_of_le hpl t3.size
  have ep : p ≠ b := fun e => hne e.symm
  obtain ⟨U, hU⟩ : ∃ U, U = (f k + 2 ^ s) % 18446744073709551616 := ⟨_, rfl⟩
  have haw : aw g (2 ^ s) 0 = U := by show (g 0 + 2 ^ s) % _ = U; rw [hg0, hU]
  have hUl : U < 18446744073709551616 := by rw [hU]; exact Nat.mod_lt _ (by omega)
  have hac : acr g (2 ^ s) 1 = 0 := by show (g 0 + 2 ^ s) / _ = 0; rw [hg0]; exact Nat.div_eq_of_lt hc
  have hUe : U = f k + 2 ^ s := by rw [hU]; exact Nat.mod_eq_of_lt hc
  have hcut : Cut (vl f (k + 1)) K pr s ng ex a1 ex (U / 2 ^ s * 2 ^ s) := by rw [hUe]; exact .up hT hu ha1 hR hc
  have hN := andNot_low (a := U) (K := s) hUl (by omega)
  have hlast := Lib.hid fun wa (r : Rw b 0 1 ((w2.setCell ⟨p, 5, none⟩ (.slice (some ⟨b, 0, none⟩) 1 c)).setCell ⟨p, 2, none⟩ (.int .i8 a1)).drew wa) (g' : Wd wa b 0 1 (aw g (2 ^ s))) =>
    CRes.last (v := U / 2 ^ s * 2 ^ s) (Fl.head (h3.still ((Turn.refl (fun _ => False) _).drew)) r g') (t3.drew.trans' (r.turn.mono fun _ _ e => .inr e)) (Nat.lt_of_le_of_lt (Nat.div_mul_le_self _ _) hUl) hcut
  have d2 := h.c2
  have d3 := h.fz 2
  obtain ⟨k0, k1, k2, k3, k4, k5, k6, fz, nt, ap, -⟩ := h1
  simp only [nv] at k5
  have hm : ¬ ((k : Int) + 1) * 64 ≤ pr := by omega
  have hn2 : ((pr : Int) + 63) / 64 = 1 := by omega
  have b1 : bits .and .u64 0 1 = 0 := by decide
  have b1' : bits .and .u64 1 1 = 1 := by decide
  have b2 : bits .or .u64 0 0 = 0 := by decide
  have b3 : bits .or .u64 0 1 = 1 := by decide
  have b4 : bits .or .u64 1 0 = 1 := by decide
  have b5 : bits .or .u64 1 1 = 1 := by decide
  have hK3 : ((k : Int) + 1) * 64 - (pr : Int) = (K : Int) := by omega
  have hK4 : (64 : Int) - (pr : Int) = (s : Int) := by omega
  have hc0 := hb.nt.2.2.2.1 0 (by have := hb.nt.1; omega)
  rw [Nat.zero_add, hg0] at hc0
  obtain ⟨cx, fx, lx⟩ := hc0
  obtain ⟨i0, i1, i2, i3, i4, i5, i6, iz, -, -, -⟩ := hb
  have iz2 := iz 2
  simp only [nv] at i5
  have hkc := nt.1
  have hM := makeAcc_any (!ng) (w2.setCell ⟨p, 5, none⟩ (.slice (some ⟨b, 0, none⟩) 1 c))
  rw [show (if (!ng) = true then (1 : Int) else -1) = a1 by rw [ha1]; cases ng <;> rfl] at hM
  replace h3 := Lib.hid h3
  replace t3 := Lib.hid t3
  replace haw := Lib.hid haw
  replace hac := Lib.hid hac
  clear h nt ap fz hwd hr hrb hsb hu hR hr0 hcut lx tB ha1
  clear iz
  clear jz jt jp hU
  clear hT
  clear hUe hc
  replace hg0 := Lib.hid hg0
  replace hK := Lib.hid hK
  generalize vl f (k + 1) = M at *
  generalize hTT : f k = T at *
  replace hTT := Lib.hid hTT
  go_enter Tryz.func175, Tryz.ntmps175
  go_wp2_with (first
    | (go_at_call 196; ((with_reducible refine hB.mono ?_)); rintro e w' ⟨rfl, rfl⟩)
    | (go_at_call 147; ((with_reducible refine hS.mono ?_)); rintro e w' ⟨rfl, rfl⟩))
  go_region
  go_wp2_with (first
    | (go_at_call 196; ((with_reducible refine hB.mono ?_)); rintro e w' ⟨rfl, rfl⟩)
    | (go_at_call 147; ((with_reducible refine hS.mono ?_)); rintro e w' ⟨rfl, rfl⟩)
    | (go_at_call 174; ((with_reducible refine hM.mono ?_)); rintro e w' ⟨rfl, rfl⟩))
  go_region_law ((go_simp; go_at_call 187; ((with_reducible refine hA.mono ?_)); rintro e wa ⟨rfl, g1, g2⟩
                  rw [hac.out]
                  have l5 := (g1.turn.cell (p := ⟨p, 5, none⟩) hpl2 ep).trans j5
                  have g0 := g2 0 (by omega)
                  rw [haw.out, Nat.zero_add] at g0
                  obtain ⟨m0, m1, -⟩ := g0
                  have hl2 := Lib.hid (hlast.out wa g1 g2)
                  clear g1 g2))
  all_goals go_wp2_with fail
  all_goals (refine bodyPost_end (results_none rfl _ _ _) rfl ?_; exact hl2.out)
set_option maxRecDepth 100000 in
set_option maxHeartbeats 4000000 in
theorem cut_many_11v {p pr k : Nat} {acc : Int} {ng : Bool} {f : Nat → Nat} {ex : Int} (b c s K : Nat) (w : World) (h : Fl w p pr acc 1 ng (some (b, c)) (k + 1) f ex) (hk1 : 1 ≤ k) (hk : k ≤ 10000) (hK : K = 64 * k + s) (hT : Top (vl f (k + 1)) K pr s (f k)) (_he : -100000 ≤ ex ∧ ex ≤ 100000)
    (hrb : vl f (k + 1) / 2 ^ (K - 1) % 2 = 1) (hsb : vl f (k + 1) % 2 ^ (K - 1) ≠ 0) (hc : 18446744073709551616 ≤ f k + 2 ^ s) :
    Calls Tryz.prog 175 #[.pointer (some ⟨p, 0, none⟩), .int .u64 0] w (CRes w p pr ng b c (vl f (k + 1)) K s ex) := by
  have h1 := h.setAcc 0
  have hne : b ≠ p := fun e => h.ap ⟨c, by rw [e]⟩
  have hwd : Wd (w.setCell ⟨p, 2, none⟩ (.int .i8 0)) b 0 (k + 1) f := h1.nt.2.2.2.1.mono h1.nt.1
  have ps := hT.ps
  have p1 := hT.p1
  have p2 := hT.p2
  have hB := bit_any b c (k + 1) (K - 1) f _ hwd (by omega) (by omega)
  have hS := sticky_any b c (k + 1) (K - 1) f _ hwd (by omega) (by omega) h1.nt.1
  have hr0 : vl f (k + 1) % 2 ^ K = vl f (k + 1) / 2 ^ (K - 1) % 2 * 2 ^ (K - 1) + vl f (k + 1) % 2 ^ (K - 1) := (rup_parts _ K hT.K1).1
  rw [hrb] at hB hr0
  rw [stk_pos hsb] at hS
  have hr : (K : Int) - 1 = ((K - 1 : Nat) : Int) := by omega
  rw [← hr] at hB hS
  have hu : rup (vl f (k + 1)) K = true := by rw [rup_one hT.K1 hrb, if_neg hsb]
  have hR : vl f (k + 1) % 2 ^ K ≠ 0 := by have := Nat.two_pow_pos (K - 1); omega
  obtain ⟨w1, w2'⟩ := wrap_two (s := s) (by omega)
  have h1d := h1.still ((Turn.refl (fun _ => False) _).drew)
  obtain ⟨w2, hcp, hcr, hcg⟩ := run_copy_wd (w.setCell ⟨p, 2, none⟩ (.int .i8 0)).drew 3 126 Tryz.underlying126 (zb := b) (zo := 0) (zl := k + 1) (zc := c) (xb := b) (xo := k) (xl := 1) (xc := c - k) (n := 1) (f := f) (x := fun i => f (k + i)) (h1d.nt.2.2.2.1.mono (by have := h1d.nt.1; omega)) (by
    have := h1d.nt.2.2.2.1.sub (k := k) (m := 1) (by have := h1d.nt.1; omega)
    rw [Nat.zero_add] at this; exact this) (by show 1 = min 1 (k + 1); omega)
  have h2 := Fl.head h1d hcr hcg
  have hg0 : (fun j => if j = 0 then (fun i => f (k + i)) 0 else f j) 0 = f k := by simp
  have hb := h2.setLen 1 (by have := h2.nt.1; omega)
  have tB : Turn (fun k => k = p ∨ k = b) w (w2.setCell ⟨p, 5, none⟩ (.slice (some ⟨b, 0, none⟩) 1 c)) := ((((set_turn w p 2 _).mono fun _ _ e => .inl e).drew).trans' (hcr.turn.mono fun _ _ e => .inr e)).trans' ((set_turn w2 p 5 _).mono fun _ _ e => .inl e)
  generalize (fun j => if j = 0 then (fun i => f (k + i)) 0 else f j) = g at hb h2 hg0
  have x5 := (h1d.c5)
  simp only [nv] at x5
  have y5 := h2.c5
  have yz := h2.fz 5
  simp only [nv] at y5
  clear hcr hcg h1d h2
  obtain ⟨a1, ha1⟩ : ∃ a1, a1 = accOf true ng := ⟨_, rfl⟩
  have h3 := hb.setAcc a1
  have t3 : Turn (fun k => k = p ∨ k = b) w ((w2.setCell ⟨p, 5, none⟩ (.slice (some ⟨b, 0, none⟩) 1 c)).setCell ⟨p, 2, none⟩ (.int .i8 a1)) := tB.trans' ((set_turn _ p 2 _).mono fun _ _ e => .inl e)
  have h3d := h3.still ((Turn.refl (fun _ => False) _).drew)
  have hle : 2 ^ s < 18446744073709551616 := by
    have : (2 : Nat) ^ s ≤ 2 ^ 63 := Nat.pow_le_pow_right (by omega) (by omega)
    rw [pw63] at this
    omega
  have hA : Calls Tryz.prog 187 #[.slice (some ⟨b, 0, none⟩) 1 c, .slice (some ⟨b, 0, none⟩) 1 c, .int .u64 (2 ^ s)] ((w2.setCell ⟨p, 5, none⟩ (.slice (some ⟨b, 0, none⟩) 1 c)).setCell ⟨p, 2, none⟩ (.int .i8 a1)).drew (AwPost b 0 1 (2 ^ s) g ((w2.setCell ⟨p, 5, none⟩ (.slice (some ⟨b, 0, none⟩) 1 c)).setCell ⟨p, 2, none⟩ (.int .i8 a1)).drew) := by
    rw [← two_pow_i]; exact addVW_same b 0 c c 0 (2 ^ s) g _ (by omega) (h3d.nt.2.2.2.1.mono h3d.nt.1) hle
  obtain ⟨j0, j1, j2, j3, j4, j5, j6, jz, jt, jp, -⟩ := h3d
  simp only [nv] at j5
  have hpl := h.lt
  have hpl2 : p < ((w2.setCell ⟨p, 5, none⟩ (.slice (some ⟨b, 0, none⟩) 1 c)).setCell ⟨p, 2, none⟩ (.int .i8 a1)).drew.heap.size := Nat.lt_of_lt_of_le hpl t3.size
  have ep : p ≠ b := fun e => hne e.symm
  obtain ⟨U, hU⟩ : ∃ U, U = (f k + 2 ^ s) % 18446744073709551616 := ⟨_, rfl⟩
  have haw : aw g (2 ^ s) 0 = U := by show (g 0 + 2 ^ s) % _ = U; rw [hg0, hU]
  have hUl : U < 18446744073709551616 := by rw [hU]; exact Nat.mod_lt _ (by omega)
  have hac : acr g (2 ^ s) 1 = 1 := by
    show (g 0 + 2 ^ s) / 18446744073709551616 = 1
    rw [hg0]
    have := hT.lt
    omega
  obtain ⟨hov, hzl⟩ := over_word hT hc
  rw [← hU] at hov hzl
  have hcut : Cut (vl f (k + 1)) K pr s ng ex a1 (ex + 1) (2 ^ 63) := .over hT hu ha1 hR hc
  obtain ⟨Z, hZ⟩ : ∃ Z, Z = U / 2 := ⟨_, rfl⟩
  rw [← hZ] at hov hzl
  obtain ⟨V, hV⟩ : ∃ V, V = Z ||| 9223372036854775808 := ⟨_, rfl⟩
  have hVl : V < 18446744073709551616 := by rw [hV]; exact Nat.or_lt_two_pow (n := 64) (by omega) (by omega)
  have hO : bits .or .u64 (Z : Int) 9223372036854775808 = (V : Int) := by rw [hV]; exact u64_or_nat Z 9223372036854775808 (by omega) (by omega)
  rw [← hV] at hov
  have hN := andNot_low (a := V) (K := s) hVl (by omega)
  rw [hov, show ((2 ^ 63 : Nat) : Int) = 9223372036854775808 by decide] at hN
  have tw := tw190
  have he1 : ¬ (2147483647 : Int) ≤ ex := by omega
  have he2 : IntKind.i32.wrap (ex + 1) = ex + 1 := IntWalk.i32_in _ (by omega)
  have hlast := Lib.hid fun wa (r : Rw b 0 1 ((w2.setCell ⟨p, 5, none⟩ (.slice (some ⟨b, 0, none⟩) 1 c)).setCell ⟨p, 2, none⟩ (.int .i8 a1)).drew wa) (g' : Wd wa b 0 1 (aw g (2 ^ s))) =>
    (show Fl (wa.setCell ⟨p, 6, none⟩ (.int .i32 (ex + 1))).drew p pr a1 1 ng (some (b, c)) 1 _ (ex + 1) ∧ Turn (fun k => k = p ∨ k = b) w (wa.setCell ⟨p, 6, none⟩ (.int .i32 (ex + 1))).drew from
      ⟨((Fl.head (h3.still ((Turn.refl (fun _ => False) _).drew)) r g').setExp (ex + 1)).still ((Turn.refl (fun _ => False) _).drew), (t3.drew.trans' (r.turn.mono fun _ _ e => .inr e)).trans' (((set_turn wa p 6 _).mono fun _ _ e => .inl e).drew)⟩)
  have hend := Lib.hid fun (wb W : World) (g' : Nat → Nat) (h5 : Fl W p pr a1 1 ng (some (b, c)) 1 g' (ex + 1)) (t5 : Turn (fun k => k = p ∨ k = b) w W) (r : Rw b 0 1 W wb) (gg : Wd wb b 0 1 (rw' g' 0 1 63)) =>
    (show CRes w p pr ng b c (vl f (k + 1)) K s ex (.returned (.tuple #[])) ((wb.setCell ⟨b, 0, none⟩ (.int .u64 (V : Nat))).setCell ⟨b, 0, none⟩ (.int .u64 ((2 ^ 63 : Nat) : Int))) from
      CRes.last (v := 2 ^ 63) ((Fl.head h5 r gg).word (k := 0) (by have := h5.nt.1; omega) hVl) ((t5.trans' (r.turn.mono fun _ _ e => .inr e)).trans' ((set_turn wb b 0 _).mono fun _ _ e => .inr e)) (by omega) hcut)
  rw [show ((2 ^ 63 : Nat) : Int) = 9223372036854775808 by decide] at hend
  have d2 := h.c2
  have d3 := h.fz 2
  obtain ⟨k0, k1, k2, k3, k4, k5, k6, fz, nt, ap, -⟩ := h1
  simp only [nv] at k5
  have hm : ¬ ((k : Int) + 1) * 64 ≤ pr := by omega
  have hn2 : ((pr : Int) + 63) / 64 = 1 := by omega
  have b1 : bits .and .u64 0 1 = 0 := by decide
  have b1' : bits .and .u64 1 1 = 1 := by decide
  have b2 : bits .or .u64 0 0 = 0 := by decide
  have b3 : bits .or .u64 0 1 = 1 := by decide
  have b4 : bits .or .u64 1 0 = 1 := by decide
  have b5 : bits .or .u64 1 1 = 1 := by decide
  have hK3 : ((k : Int) + 1) * 64 - (pr : Int) = (K : Int) := by omega
  have hK4 : (64 : Int) - (pr : Int) = (s : Int) := by omega
  have hc0 := hb.nt.2.2.2.1 0 (by have := hb.nt.1; omega)
  rw [Nat.zero_add, hg0] at hc0
  obtain ⟨cx, fx, lx⟩ := hc0
  obtain ⟨i0, i1, i2, i3, i4, i5, i6, iz, -, -, -⟩ := hb
  have iz2 := iz 2
  simp only [nv] at i5
  have hkc := nt.1
  have hM := makeAcc_any (!ng) (w2.setCell ⟨p, 5, none⟩ (.slice (some ⟨b, 0, none⟩) 1 c))
  rw [show (if (!ng) = true then (1 : Int) else -1) = a1 by rw [ha1]; cases ng <;> rfl] at hM
  replace h3 := Lib.hid h3
  replace t3 := Lib.hid t3
  replace haw := Lib.hid haw
  replace hac := Lib.hid hac
  clear h nt ap fz hwd hr hrb hsb hu hR hr0 hcut lx tB ha1
  clear iz
  clear jz jt jp hU
  clear hT
  replace hZ := Lib.hid hZ
  clear hV hov hc
  replace hg0 := Lib.hid hg0
  replace hK := Lib.hid hK
  generalize vl f (k + 1) = M at *
  generalize hTT : f k = T at *
  replace hTT := Lib.hid hTT
  go_enter Tryz.func175, Tryz.ntmps175
  go_wp2_with (first
    | (go_at_call 196; ((with_reducible refine hB.mono ?_)); rintro e w' ⟨rfl, rfl⟩)
    | (go_at_call 147; ((with_reducible refine hS.mono ?_)); rintro e w' ⟨rfl, rfl⟩))
  go_region
  go_wp2_with (first
    | (go_at_call 196; ((with_reducible refine hB.mono ?_)); rintro e w' ⟨rfl, rfl⟩)
    | (go_at_call 147; ((with_reducible refine hS.mono ?_)); rintro e w' ⟨rfl, rfl⟩)
    | (go_at_call 174; ((with_reducible refine hM.mono ?_)); rintro e w' ⟨rfl, rfl⟩))
  go_region_law ((go_simp; go_at_call 187; ((with_reducible refine hA.mono ?_)); rintro e wa ⟨rfl, g1, g2⟩
                  rw [hac.out]
                  have l5 := (g1.turn.cell (p := ⟨p, 5, none⟩) hpl2 ep).trans j5
                  have l6 := (g1.turn.cell (p := ⟨p, 6, none⟩) hpl2 ep).trans j6
                  have lz := (g1.turn.frozen (p := ⟨p, 6, none⟩) hpl2 ep).trans (h3.out.fz 6)
                  have hl2 := hlast.out wa g1 g2
                  obtain ⟨h5, t5⟩ := hl2
                  have hw5 : Wd _ b 0 1 _ := h5.nt.2.2.2.1.mono h5.nt.1
                  have hR1 : Calls Tryz.prog 89 #[.slice (some ⟨b, 0, none⟩) 1 c, .slice (some ⟨b, 0, none⟩) 1 c, .int .u64 1] _ _ := rsh_call b c b 0 c 1 1 63 _ _ _ (by omega) (by omega) hw5 hw5 rfl (by omega) (by omega)
                  have i5 := h5.c5
                  simp only [nv] at i5
                  have hpl5 := h5.lt
                  have hfin := Lib.hid fun wb => hend.out wb _ _ h5 t5
                  replace h5 := Lib.hid h5
                  clear hlast g1 g2 hw5))
  all_goals go_wp2_with fail
  all_goals go_region_law ((go_simp; go_at_call 89; ((with_reducible refine hR1.mono ?_)); rintro e wb ⟨v, rfl, g3, g4⟩
                            have l7 := (g3.turn.cell (p := ⟨p, 5, none⟩) hpl5 ep).trans i5
                            have hlast2 := Lib.hid (hfin.out wb g3 g4)
                            have g5 := g4 0 (by omega)
                            rw [show rw' _ (1 - 1) 1 63 0 = Z from by rw [hZ.out, ← haw.out]; rfl, Nat.zero_add] at g5
                            obtain ⟨m0, m1, -⟩ := g5
                            clear g3 g4 hfin))
  all_goals go_wp2_with fail
  all_goals (refine bodyPost_end (results_none rfl _ _ _) rfl ?_; exact hlast2.out)
end
end Go.Proofs.YtllapbkoildfiaaGreatFmt
