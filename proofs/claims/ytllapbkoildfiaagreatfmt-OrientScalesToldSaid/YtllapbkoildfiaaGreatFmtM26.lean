/- math/big.Float: round to few bits: the walks. -/
import Derived.Test.YtllapbkoildfiaaGreatFmtM25
import Derived.BigQuiet
set_option linter.all false
namespace Go.Proofs.YtllapbkoildfiaaGreatFmt
section
open Go.RowKit
theorem two_pow_i (s : Nat) : ((2 ^ s : Nat) : Int) = (2 : Int) ^ s := by rw [Int.natCast_pow]; rfl
theorem wrap_two {s : Nat} (hs : s ≤ 63) : IntKind.u64.wrap (2 ^ s) = 2 ^ s ∧ IntKind.u64.wrap (2 ^ s - 1) = 2 ^ s - 1 := by
  have h1 : (2 : Nat) ^ s ≤ 2 ^ 63 := Nat.pow_le_pow_right (by omega) hs
  have h2 := Nat.two_pow_pos s
  rw [← two_pow_i, IntKind.wrap_u64, IntKind.wrap_u64]
  omega
theorem Fl.head {w w' : World} {p pr : Nat} {acc : Int} {fm : Nat} {ng : Bool} {b c n : Nat} {f g : Nat → Nat} {ex : Int} (h : Fl w p pr acc fm ng (some (b, c)) n f ex) (r : Rw b 0 1 w w') (hg : Wd w' b 0 1 g) :
    Fl w' p pr acc fm ng (some (b, c)) n (fun j => if j = 0 then g 0 else f j) ex := by
  have hne : p ≠ b := fun e => h.ap ⟨c, by rw [e]⟩
  have t := r.turn
  have hl := h.lt
  have q : ∀ i, w'.cell? ⟨p, i, none⟩ = w.cell? ⟨p, i, none⟩ := fun i => t.cell (p := ⟨p, i, none⟩) hl hne
  obtain ⟨n1, n2, n3, n4, n5⟩ := h.nt
  refine ⟨(q 0).trans h.c0, (q 1).trans h.c1, (q 2).trans h.c2, (q 3).trans h.c3, (q 4).trans h.c4, (q 5).trans h.c5, (q 6).trans h.c6, fun i => (t.frozen (p := ⟨p, i, none⟩) hl hne).trans (h.fz i), ⟨n1, n2, n3, fun i hi => ?_, r.plain n5⟩, h.ap, r.plain h.pl⟩
  by_cases e : i = 0
  · subst e
    exact hg 0 (by omega)
  · show _ ∧ _ ∧ (if i = 0 then g 0 else f i) < _
    simp only [if_neg e]
    exact n4.rw r hi fun _ => by omega
theorem Fl.setExp {w : World} {p pr : Nat} {acc : Int} {fm : Nat} {ng : Bool} {o : Option (Nat × Nat)} {n : Nat} {f : Nat → Nat} {ex : Int} (h : Fl w p pr acc fm ng o n f ex) (e' : Int) : Fl (w.setCell ⟨p, 6, none⟩ (.int .i32 e')) p pr acc fm ng o n f e' := by
  have k : ∀ j, 6 ≠ j → (w.setCell ⟨p, 6, none⟩ (.int .i32 e')).cell? ⟨p, j, none⟩ = w.cell? ⟨p, j, none⟩ := fun j hj => set_other w p 6 j _ hj
  exact ⟨(k 0 (by omega)).trans h.c0, (k 1 (by omega)).trans h.c1, (k 2 (by omega)).trans h.c2, (k 3 (by omega)).trans h.c3, (k 4 (by omega)).trans h.c4, (k 5 (by omega)).trans h.c5, World.cell?_setCell_same _ _ _ h.c6,
    fun i => by rw [World.frozen?_setCell]; exact h.fz i, h.nt.turn (set_turn w p 6 _) fun k g e => by subst e; exact h.ap g, h.ap, h.pl.setCell _ _⟩
theorem Fl.setLen {w : World} {p pr : Nat} {acc : Int} {fm : Nat} {ng : Bool} {b c n : Nat} {f : Nat → Nat} {ex : Int} (h : Fl w p pr acc fm ng (some (b, c)) n f ex) (m : Nat) (hm : m ≤ c) : Fl (w.setCell ⟨p, 5, none⟩ (.slice (some ⟨b, 0, none⟩) m c)) p pr acc fm ng (some (b, c)) m f ex := by
  have k : ∀ j, 5 ≠ j → (w.setCell ⟨p, 5, none⟩ (.slice (some ⟨b, 0, none⟩) m c)).cell? ⟨p, j, none⟩ = w.cell? ⟨p, j, none⟩ := fun j hj => set_other w p 5 j _ hj
  have hn := h.nt.turn (set_turn w p 5 (.slice (some ⟨b, 0, none⟩) m c)) fun k g e => by subst e; exact h.ap g
  exact ⟨(k 0 (by omega)).trans h.c0, (k 1 (by omega)).trans h.c1, (k 2 (by omega)).trans h.c2, (k 3 (by omega)).trans h.c3, (k 4 (by omega)).trans h.c4, World.cell?_setCell_same _ _ _ h.c5, (k 6 (by omega)).trans h.c6,
    fun i => by rw [World.frozen?_setCell]; exact h.fz i, ⟨hm, hn.2⟩, h.ap, h.pl.setCell _ _⟩
theorem CRes.last {w W : World} {p pr b c M K s : Nat} {ng : Bool} {ex acc' ex' : Int} {g : Nat → Nat} {v : Nat} (h : Fl W p pr acc' 1 ng (some (b, c)) 1 g ex') (t : Turn (fun k => k = p ∨ k = b) w W) (hv : v < 18446744073709551616) (hC : Cut M K pr s ng ex acc' ex' v) :
    CRes w p pr ng b c M K s ex (.returned (.tuple #[])) (W.setCell ⟨b, 0, none⟩ (.int .u64 (v : Nat))) :=
  ⟨rfl, acc', ex', _, h.word (k := 0) (by have := h.nt.1; omega) hv, by simpa using hC, t.trans' ((set_turn W b 0 _).mono fun _ _ e => .inr e)⟩
set_option maxRecDepth 100000 in
set_option maxHeartbeats 4000000 in
theorem cut_one_00 {p pr : Nat} {acc : Int} {ng : Bool} {f : Nat → Nat} {ex : Int} (b c s : Nat) (w : World) (h : Fl w p pr acc 1 ng (some (b, c)) 1 f ex) (hT : Top (vl f 1) s pr s (f 0)) (_he : -100000 ≤ ex ∧ ex ≤ 100000)
    (hrb : vl f 1 / 2 ^ (s - 1) % 2 = 0) (hsb : vl f 1 % 2 ^ (s - 1) = 0) :
    Calls Tryz.prog 175 #[.pointer (some ⟨p, 0, none⟩), .int .u64 0] w (CRes w p pr ng b c (vl f 1) s s ex) := by
  have h1 := h.setAcc 0
  have hne : b ≠ p := fun e => h.ap ⟨c, by rw [e]⟩
  have hwd : Wd (w.setCell ⟨p, 2, none⟩ (.int .i8 0)) b 0 1 f := h1.nt.2.2.2.1.mono h1.nt.1
  have ps := hT.ps
  have p1 := hT.p1
  have p2 := hT.p2
  have hB := bit_any b c 1 (s - 1) f _ hwd (by omega) (by omega)
  have hS := sticky_any b c 1 (s - 1) f _ hwd (by omega) (by omega) h1.nt.1
  have hr0 : vl f 1 % 2 ^ s = vl f 1 / 2 ^ (s - 1) % 2 * 2 ^ (s - 1) + vl f 1 % 2 ^ (s - 1) := (rup_parts _ s hT.K1).1
  rw [hrb] at hB hr0
  rw [hsb, stk_zero] at hS
  have hr : (s : Int) - 1 = ((s - 1 : Nat) : Int) := by omega
  rw [← hr] at hB hS
  have hu : rup (vl f 1) s = false := rup_zero hT.K1 hrb
  have hR : vl f 1 % 2 ^ s = 0 := by omega
  obtain ⟨w1, w2'⟩ := wrap_two (s := s) (by omega)
  have hb : Fl (w.setCell ⟨p, 2, none⟩ (.int .i8 0)) p pr 0 1 ng (some (b, c)) 1 f ex := h1
  have hg0 : f 0 = f 0 := rfl
  have tB : Turn (fun k => k = p ∨ k = b) w (w.setCell ⟨p, 2, none⟩ (.int .i8 0)) := (set_turn w p 2 _).mono fun _ _ e => .inl e
  have hcut : Cut (vl f 1) s pr s ng ex 0 ex (f 0 / 2 ^ s * 2 ^ s) := .down hT hu (by rw [if_pos hR])
  have hlast := CRes.last (v := f 0 / 2 ^ s * 2 ^ s) hb tB (by have := hT.lt; have := Nat.div_mul_le_self (f 0) (2 ^ s); omega) hcut
  have hA := andNot_low (a := f 0) (K := s) hT.lt (by omega)
  have d2 := h.c2
  have d3 := h.fz 2
  obtain ⟨k0, k1, k2, k3, k4, k5, k6, fz, nt, ap, -⟩ := h1
  simp only [nv] at k5
  have hm : ¬ (64 : Int) ≤ pr := by omega
  have hn2 : ((pr : Int) + 63) / 64 = 1 := by omega
  have b1 : bits .and .u64 0 1 = 0 := by decide
  have b1' : bits .and .u64 1 1 = 1 := by decide
  have b2 : bits .or .u64 0 0 = 0 := by decide
  have b3 : bits .or .u64 0 1 = 1 := by decide
  have b4 : bits .or .u64 1 0 = 1 := by decide
  have b5 : bits .or .u64 1 1 = 1 := by decide
  have hK3 : (64 : Int) - (pr : Int) = (s : Int) := by omega
  have hc0 := hwd 0 (by omega)
  rw [Nat.zero_add] at hc0
  obtain ⟨cx, fx, lx⟩ := hc0
  replace hlast := Lib.hid hlast
  clear h nt ap fz hwd hr hrb hsb hu hR hr0 hcut lx tB
  clear hb hg0
  clear hT
  generalize vl f 1 = M at *
  generalize f 0 = T at *
  go_enter Tryz.func175, Tryz.ntmps175
  go_wp2_with (first
    | (go_at_call 196; ((with_reducible refine hB.mono ?_)); rintro e w' ⟨rfl, rfl⟩)
    | (go_at_call 147; ((with_reducible refine hS.mono ?_)); rintro e w' ⟨rfl, rfl⟩))
  refine bodyPost_end (results_none rfl _ _ _) rfl ?_
  exact hlast.out
set_option maxRecDepth 100000 in
set_option maxHeartbeats 4000000 in
theorem cut_one_01 {p pr : Nat} {acc : Int} {ng : Bool} {f : Nat → Nat} {ex : Int} (b c s : Nat) (w : World) (h : Fl w p pr acc 1 ng (some (b, c)) 1 f ex) (hT : Top (vl f 1) s pr s (f 0)) (_he : -100000 ≤ ex ∧ ex ≤ 100000)
    (hrb : vl f 1 / 2 ^ (s - 1) % 2 = 0) (hsb : vl f 1 % 2 ^ (s - 1) ≠ 0) :
    Calls Tryz.prog 175 #[.pointer (some ⟨p, 0, none⟩), .int .u64 0] w (CRes w p pr ng b c (vl f 1) s s ex) := by
  have h1 := h.setAcc 0
  have hne : b ≠ p := fun e => h.ap ⟨c, by rw [e]⟩
  have hwd : Wd (w.setCell ⟨p, 2, none⟩ (.int .i8 0)) b 0 1 f := h1.nt.2.2.2.1.mono h1.nt.1
  have ps := hT.ps
  have p1 := hT.p1
  have p2 := hT.p2
  have hB := bit_any b c 1 (s - 1) f _ hwd (by omega) (by omega)
  have hS := sticky_any b c 1 (s - 1) f _ hwd (by omega) (by omega) h1.nt.1
  have hr0 : vl f 1 % 2 ^ s = vl f 1 / 2 ^ (s - 1) % 2 * 2 ^ (s - 1) + vl f 1 % 2 ^ (s - 1) := (rup_parts _ s hT.K1).1
  rw [hrb] at hB hr0
  rw [stk_pos hsb] at hS
  have hr : (s : Int) - 1 = ((s - 1 : Nat) : Int) := by omega
  rw [← hr] at hB hS
  have hu : rup (vl f 1) s = false := rup_zero hT.K1 hrb
  have hR : vl f 1 % 2 ^ s ≠ 0 := by have := Nat.two_pow_pos (s - 1); omega
  obtain ⟨w1, w2'⟩ := wrap_two (s := s) (by omega)
  have hb : Fl (w.setCell ⟨p, 2, none⟩ (.int .i8 0)) p pr 0 1 ng (some (b, c)) 1 f ex := h1
  have hg0 : f 0 = f 0 := rfl
  have tB : Turn (fun k => k = p ∨ k = b) w (w.setCell ⟨p, 2, none⟩ (.int .i8 0)) := (set_turn w p 2 _).mono fun _ _ e => .inl e
  obtain ⟨a1, ha1⟩ : ∃ a1, a1 = accOf false ng := ⟨_, rfl⟩
  have hcut : Cut (vl f 1) s pr s ng ex a1 ex (f 0 / 2 ^ s * 2 ^ s) := .down hT hu (by rw [if_neg hR]; exact ha1)
  have h3 := hb.setAcc a1
  have hlast := CRes.last (v := f 0 / 2 ^ s * 2 ^ s) h3 (tB.trans' ((set_turn _ p 2 _).mono fun _ _ e => .inl e)) (by have := hT.lt; have := Nat.div_mul_le_self (f 0) (2 ^ s); omega) hcut
  have hA := andNot_low (a := f 0) (K := s) hT.lt (by omega)
  have d2 := h.c2
  have d3 := h.fz 2
  obtain ⟨k0, k1, k2, k3, k4, k5, k6, fz, nt, ap, -⟩ := h1
  simp only [nv] at k5
  have hm : ¬ (64 : Int) ≤ pr := by omega
  have hn2 : ((pr : Int) + 63) / 64 = 1 := by omega
  have b1 : bits .and .u64 0 1 = 0 := by decide
  have b1' : bits .and .u64 1 1 = 1 := by decide
  have b2 : bits .or .u64 0 0 = 0 := by decide
  have b3 : bits .or .u64 0 1 = 1 := by decide
  have b4 : bits .or .u64 1 0 = 1 := by decide
  have b5 : bits .or .u64 1 1 = 1 := by decide
  have hK3 : (64 : Int) - (pr : Int) = (s : Int) := by omega
  have hc0 := hwd 0 (by omega)
  rw [Nat.zero_add] at hc0
  obtain ⟨cx, fx, lx⟩ := hc0
  have hM := makeAcc_any (ng) (w.setCell ⟨p, 2, none⟩ (.int .i8 0))
  rw [show (if (ng) = true then (1 : Int) else -1) = a1 by rw [ha1]; cases ng <;> rfl] at hM
  replace h3 := Lib.hid h3
  replace hlast := Lib.hid hlast
  clear h nt ap fz hwd hr hrb hsb hu hR hr0 hcut lx tB ha1
  clear hb hg0
  clear hT
  generalize vl f 1 = M at *
  generalize f 0 = T at *
  go_enter Tryz.func175, Tryz.ntmps175
  go_wp2_with (first
    | (go_at_call 196; ((with_reducible refine hB.mono ?_)); rintro e w' ⟨rfl, rfl⟩)
    | (go_at_call 147; ((with_reducible refine hS.mono ?_)); rintro e w' ⟨rfl, rfl⟩)
    | (go_at_call 174; ((with_reducible refine hM.mono ?_)); rintro e w' ⟨rfl, rfl⟩))
  refine bodyPost_end (results_none rfl _ _ _) rfl ?_
  exact hlast.out
set_option maxRecDepth 100000 in
set_option maxHeartbeats 4000000 in
theorem cut_one_10e {p pr : Nat} {acc : Int} {ng : Bool} {f : Nat → Nat} {ex : Int} (b c s : Nat) (w : World) (h : Fl w p pr acc 1 ng (some (b, c)) 1 f ex) (hT : Top (vl f 1) s pr s (f 0)) (_he : -100000 ≤ ex ∧ ex ≤ 100000)
    (hrb : vl f 1 / 2 ^ (s - 1) % 2 = 1) (hsb : vl f 1 % 2 ^ (s - 1) = 0) (ho : f 0 / 2 ^ s % 2 ≠ 1) :
    Calls Tryz.prog 175 #[.pointer (some ⟨p, 0, none⟩), .int .u64 0] w (CRes w p pr ng b c (vl f 1) s s ex) := by
  have h1 := h.setAcc 0
  have hne : b ≠ p := fun e => h.ap ⟨c, by rw [e]⟩
  have hwd : Wd (w.setCell ⟨p, 2, none⟩ (.int .i8 0)) b 0 1 f := h1.nt.2.2.2.1.mono h1.nt.1
  have ps := hT.ps
  have p1 := hT.p1
  have p2 := hT.p2
  have hB := bit_any b c 1 (s - 1) f _ hwd (by omega) (by omega)
  have hS := sticky_any b c 1 (s - 1) f _ hwd (by omega) (by omega) h1.nt.1
  have hr0 : vl f 1 % 2 ^ s = vl f 1 / 2 ^ (s - 1) % 2 * 2 ^ (s - 1) + vl f 1 % 2 ^ (s - 1) := (rup_parts _ s hT.K1).1
  rw [hrb] at hB hr0
  rw [hsb, stk_zero] at hS
  have hr : (s : Int) - 1 = ((s - 1 : Nat) : Int) := by omega
  rw [← hr] at hB hS
  have hu : rup (vl f 1) s = false := by rw [rup_one hT.K1 hrb, if_pos hsb, hT.q]; exact decide_eq_false ho
  have hR : vl f 1 % 2 ^ s ≠ 0 := by have := Nat.two_pow_pos (s - 1); omega
  obtain ⟨w1, w2'⟩ := wrap_two (s := s) (by omega)
  have hand := and_pow (T := f 0) (s := s) hT.lt (by omega)
  rw [decide_eq_false ho] at hand
  have hb : Fl (w.setCell ⟨p, 2, none⟩ (.int .i8 0)) p pr 0 1 ng (some (b, c)) 1 f ex := h1
  have hg0 : f 0 = f 0 := rfl
  have tB : Turn (fun k => k = p ∨ k = b) w (w.setCell ⟨p, 2, none⟩ (.int .i8 0)) := (set_turn w p 2 _).mono fun _ _ e => .inl e
  obtain ⟨a1, ha1⟩ : ∃ a1, a1 = accOf false ng := ⟨_, rfl⟩
  have hcut : Cut (vl f 1) s pr s ng ex a1 ex (f 0 / 2 ^ s * 2 ^ s) := .down hT hu (by rw [if_neg hR]; exact ha1)
  have h3 := hb.setAcc a1
  have hlast := CRes.last (v := f 0 / 2 ^ s * 2 ^ s) h3 (tB.trans' ((set_turn _ p 2 _).mono fun _ _ e => .inl e)) (by have := hT.lt; have := Nat.div_mul_le_self (f 0) (2 ^ s); omega) hcut
  have hA := andNot_low (a := f 0) (K := s) hT.lt (by omega)
  have d2 := h.c2
  have d3 := h.fz 2
  obtain ⟨k0, k1, k2, k3, k4, k5, k6, fz, nt, ap, -⟩ := h1
  simp only [nv] at k5
  have hm : ¬ (64 : Int) ≤ pr := by omega
  have hn2 : ((pr : Int) + 63) / 64 = 1 := by omega
  have b1 : bits .and .u64 0 1 = 0 := by decide
  have b1' : bits .and .u64 1 1 = 1 := by decide
  have b2 : bits .or .u64 0 0 = 0 := by decide
  have b3 : bits .or .u64 0 1 = 1 := by decide
  have b4 : bits .or .u64 1 0 = 1 := by decide
  have b5 : bits .or .u64 1 1 = 1 := by decide
  have hK3 : (64 : Int) - (pr : Int) = (s : Int) := by omega
  have hc0 := hwd 0 (by omega)
  rw [Nat.zero_add] at hc0
  obtain ⟨cx, fx, lx⟩ := hc0
  have hM := makeAcc_any (ng) (w.setCell ⟨p, 2, none⟩ (.int .i8 0))
  rw [show (if (ng) = true then (1 : Int) else -1) = a1 by rw [ha1]; cases ng <;> rfl] at hM
  replace h3 := Lib.hid h3
  replace hlast := Lib.hid hlast
  clear h nt ap fz hwd hr hrb hsb hu hR hr0 hcut lx tB ha1
  clear hb hg0
  clear ho
  clear hT
  generalize vl f 1 = M at *
  generalize f 0 = T at *
  go_enter Tryz.func175, Tryz.ntmps175
  go_wp2_with (first
    | (go_at_call 196; ((with_reducible refine hB.mono ?_)); rintro e w' ⟨rfl, rfl⟩)
    | (go_at_call 147; ((with_reducible refine hS.mono ?_)); rintro e w' ⟨rfl, rfl⟩)
    | (go_at_call 174; ((with_reducible refine hM.mono ?_)); rintro e w' ⟨rfl, rfl⟩))
  refine bodyPost_end (results_none rfl _ _ _) rfl ?_
  exact hlast.out
set_option maxRecDepth 100000 in
set_option maxHeartbeats 4000000 in
theorem cut_one_10o {p pr : Nat} {acc : Int} {ng : Bool} {f : Nat → Nat} {ex : Int} (b c s : Nat) (w : World) (h : Fl w p pr acc 1 ng (some (b, c)) 1 f ex) (hT : Top (vl f 1) s pr s (f 0)) (_he : -100000 ≤ ex ∧ ex ≤ 100000)
    (hrb : vl f 1 / 2 ^ (s - 1) % 2 = 1) (hsb : vl f 1 % 2 ^ (s - 1) = 0) (ho : f 0 / 2 ^ s % 2 = 1) (hc : f 0 + 2 ^ s < 18446744073709551616) :
    Calls Tryz.prog 175 #[.pointer (some ⟨p, 0, none⟩), .int .u64 0] w (CRes w p pr ng b c (vl f 1) s s ex) := by
  have h1 := h.setAcc 0
  have hne : b ≠ p := fun e => h.ap ⟨c, by rw [e]⟩
  have hwd : Wd (w.setCell ⟨p, 2, none⟩ (.int .i8 0)) b 0 1 f := h1.nt.2.2.2.1.mono h1.nt.1
  have ps := hT.ps
  have p1 := hT.p1
  have p2 := hT.p2
  have hB := bit_any b c 1 (s - 1) f _ hwd (by omega) (by omega)
  have hS := sticky_any b c 1 (s - 1) f _ hwd (by omega) (by omega) h1.nt.1
  have hr0 : vl f 1 % 2 ^ s = vl f 1 / 2 ^ (s - 1) % 2 * 2 ^ (s - 1) + vl f 1 % 2 ^ (s - 1) := (rup_parts _ s hT.K1).1
  rw [hrb] at hB hr0
  rw [hsb, stk_zero] at hS
  have hr : (s : Int) - 1 = ((s - 1 : Nat) : Int) := by omega
  rw [← hr] at hB hS
  have hu : rup (vl f 1) s = true := by rw [rup_one hT.K1 hrb, if_pos hsb, hT.q]; exact decide_eq_true ho
  have hR : vl f 1 % 2 ^ s ≠ 0 := by have := Nat.two_pow_pos (s - 1); omega
  obtain ⟨w1, w2'⟩ := wrap_two (s := s) (by omega)
  have hand := and_pow (T := f 0) (s := s) hT.lt (by omega)
  rw [decide_eq_true ho] at hand
  have hb : Fl (w.setCell ⟨p, 2, none⟩ (.int .i8 0)) p pr 0 1 ng (some (b, c)) 1 f ex := h1
  have hg0 : f 0 = f 0 := rfl
  have tB : Turn (fun k => k = p ∨ k = b) w (w.setCell ⟨p, 2, none⟩ (.int .i8 0)) := (set_turn w p 2 _).mono fun _ _ e => .inl e
  obtain ⟨a1, ha1⟩ : ∃ a1, a1 = accOf true ng := ⟨_, rfl⟩
  have h3 := hb.setAcc a1
  have t3 : Turn (fun k => k = p ∨ k = b) w ((w.setCell ⟨p, 2, none⟩ (.int .i8 0)).setCell ⟨p, 2, none⟩ (.int .i8 a1)) := tB.trans' ((set_turn _ p 2 _).mono fun _ _ e => .inl e)
  have h3d := h3.still ((Turn.refl (fun _ => False) _).drew)
  have hle : 2 ^ s < 18446744073709551616 := by
    have : (2 : Nat) ^ s ≤ 2 ^ 63 := Nat.pow_le_pow_right (by omega) (by omega)
    rw [pw63] at this
    omega
  have hA : Calls Tryz.prog 187 #[.slice (some ⟨b, 0, none⟩) 1 c, .slice (some ⟨b, 0, none⟩) 1 c, .int .u64 (2 ^ s)] ((w.setCell ⟨p, 2, none⟩ (.int .i8 0)).setCell ⟨p, 2, none⟩ (.int .i8 a1)).drew (AwPost b 0 1 (2 ^ s) f ((w.setCell ⟨p, 2, none⟩ (.int .i8 0)).setCell ⟨p, 2, none⟩ (.int .i8 a1)).drew) := by
    rw [← two_pow_i]; exact addVW_same b 0 c c 0 (2 ^ s) f _ (by omega) (h3d.nt.2.2.2.1.mono h3d.nt.1) hle
  obtain ⟨j0, j1, j2, j3, j4, j5, j6, jz, jt, jp, -⟩ := h3d
  simp only [nv] at j5
  have hpl := h.lt
  have hpl2 : p < ((w.setCell ⟨p, 2, none⟩ (.int .i8 0)).setCell ⟨p, 2, none⟩ (.int .i8 a1)).drew.heap.size := Nat.lt_of_lt_of_le hpl t3.size
  have ep : p ≠ b := fun e => hne e.symm
  obtain ⟨U, hU⟩ : ∃ U, U = (f 0 + 2 ^ s) % 18446744073709551616 := ⟨_, rfl⟩
  have haw : aw f (2 ^ s) 0 = U := by show (f 0 + 2 ^ s) % _ = U; rw [hg0, hU]
  have hUl : U < 18446744073709551616 := by rw [hU]; exact Nat.mod_lt _ (by omega)
  have hac : acr f (2 ^ s) 1 = 0 := by show (f 0 + 2 ^ s) / _ = 0; rw [hg0]; exact Nat.div_eq_of_lt hc
  have hUe : U = f 0 + 2 ^ s := by rw [hU]; exact Nat.mod_eq_of_lt hc
  have hcut : Cut (vl f 1) s pr s ng ex a1 ex (U / 2 ^ s * 2 ^ s) := by rw [hUe]; exact .up hT hu ha1 hR hc
  have hN := andNot_low (a := U) (K := s) hUl (by omega)
  have hlast := Lib.hid fun wa (r : Rw b 0 1 ((w.setCell ⟨p, 2, none⟩ (.int .i8 0)).setCell ⟨p, 2, none⟩ (.int .i8 a1)).drew wa) (g' : Wd wa b 0 1 (aw f (2 ^ s))) =>
    CRes.last (v := U / 2 ^ s * 2 ^ s) (Fl.head (h3.still ((Turn.refl (fun _ => False) _).drew)) r g') (t3.drew.trans' (r.turn.mono fun _ _ e => .inr e)) (Nat.lt_of_le_of_lt (Nat.div_mul_le_self _ _) hUl) hcut
  have d2 := h.c2
  have d3 := h.fz 2
  obtain ⟨k0, k1, k2, k3, k4, k5, k6, fz, nt, ap, -⟩ := h1
  simp only [nv] at k5
  have hm : ¬ (64 : Int) ≤ pr := by omega
  have hn2 : ((pr : Int) + 63) / 64 = 1 := by omega
  have b1 : bits .and .u64 0 1 = 0 := by decide
  have b1' : bits .and .u64 1 1 = 1 := by decide
  have b2 : bits .or .u64 0 0 = 0 := by decide
  have b3 : bits .or .u64 0 1 = 1 := by decide
  have b4 : bits .or .u64 1 0 = 1 := by decide
  have b5 : bits .or .u64 1 1 = 1 := by decide
  have hK3 : (64 : Int) - (pr : Int) = (s : Int) := by omega
  have hc0 := hwd 0 (by omega)
  rw [Nat.zero_add] at hc0
  obtain ⟨cx, fx, lx⟩ := hc0
  have hM := makeAcc_any (!ng) (w.setCell ⟨p, 2, none⟩ (.int .i8 0))
  rw [show (if (!ng) = true then (1 : Int) else -1) = a1 by rw [ha1]; cases ng <;> rfl] at hM
  replace h3 := Lib.hid h3
  replace t3 := Lib.hid t3
  replace haw := Lib.hid haw
  replace hac := Lib.hid hac
  clear h nt ap fz hwd hr hrb hsb hu hR hr0 hcut lx tB ha1
  clear hb hg0
  clear ho
  clear jz jt jp hU
  clear hT
  clear hUe hc
  generalize vl f 1 = M at *
  generalize hTT : f 0 = T at *
  replace hTT := Lib.hid hTT
  go_enter Tryz.func175, Tryz.ntmps175
  go_wp2_with (first
    | (go_at_call 196; ((with_reducible refine hB.mono ?_)); rintro e w' ⟨rfl, rfl⟩)
    | (go_at_call 147; ((with_reducible refine hS.mono ?_)); rintro e w' ⟨rfl, rfl⟩)
    | (go_at_call 174; ((with_reducible refine hM.mono ?_)); rintro e w' ⟨rfl, rfl⟩))
  go_region_law ((go_simp; go_at_call 187; ((with_reducible refine hA.mono ?_)); rintro e wa ⟨rfl, g1, g2⟩
                  rw [hac.out]
                  have l5 := (g1.turn.cell (p := ⟨p, 5, none⟩) hpl2 ep).trans j5
                  have g0 := g2 0 (by omega)
                  rw [haw.out, Nat.zero_add] at g0
                  obtain ⟨m0, m1, -⟩ := g0
                  have hl2 := Lib.hid (hlast.out wa g1 g2)
                  clear g1 g2))
  all_goals go_wp2_with fail
  all_goals (refine bodyPost_end (results_none rfl _ _ _) rfl ?_; exact hl2.out)
set_option maxRecDepth 100000 in
set_option maxHeartbeats 4000000 in
theorem cut_one_10v {p pr : Nat} {acc : Int} {ng : Bool} {f : Nat → Nat} {ex : Int} (b c s : Nat) (w : World) (h : Fl w p pr acc 1 ng (some (b, c)) 1 f ex) (hT : Top (vl f 1) s pr s (f 0)) (_he : -100000 ≤ ex ∧ ex ≤ 100000)
    (hrb : vl f 1 / 2 ^ (s - 1) % 2 = 1) (hsb : vl f 1 % 2 ^ (s - 1) = 0) (ho : f 0 / 2 ^ s % 2 = 1) (hc : 18446744073709551616 ≤ f 0 + 2 ^ s) :
    Calls Tryz.prog 175 #[.pointer (some ⟨p, 0, none⟩), .int .u64 0] w (CRes w p pr ng b c (vl f 1) s s ex) := by
  have h1 := h.setAcc 0
  have hne : b ≠ p := fun e => h.ap ⟨c, by rw [e]⟩
  have hwd : Wd (w.setCell ⟨p, 2, none⟩ (.int .i8 0)) b 0 1 f := h1.nt.2.2.2.1.mono h1.nt.1
  have ps := hT.ps
  have p1 := hT.p1
  have p2 := hT.p2
  have hB := bit_any b c 1 (s - 1) f _ hwd (by omega) (by omega)
  have hS := sticky_any b c 1 (s - 1) f _ hwd (by omega) (by omega) h1.nt.1
  have hr0 : vl f 1 % 2 ^ s = vl f 1 / 2 ^ (s - 1) % 2 * 2 ^ (s - 1) + vl f 1 % 2 ^ (s - 1) := (rup_parts _ s hT.K1).1
  rw [hrb] at hB hr0
  rw [hsb, stk_zero] at hS
  have hr : (s : Int) - 1 = ((s - 1 : Nat) : Int) := by omega
  rw [← hr] at hB hS
  have hu : rup (vl f 1) s = true := by rw [rup_one hT.K1 hrb, if_pos hsb, hT.q]; exact decide_eq_true ho
  have hR : vl f 1 % 2 ^ s ≠ 0 := by have := Nat.two_pow_pos (s - 1); omega
  obtain ⟨w1, w2'⟩ := wrap_two (s := s) (by omega)
  have hand := and_pow (T := f 0) (s := s) hT.lt (by omega)
  rw [decide_eq_true ho] at hand
  have hb : Fl (w.setCell ⟨p, 2, none⟩ (.int .i8 0)) p pr 0 1 ng (some (b, c)) 1 f ex := h1
  have hg0 : f 0 = f 0 := rfl
  have tB : Turn (fun k => k = p ∨ k = b) w (w.setCell ⟨p, 2, none⟩ (.int .i8 0)) := (set_turn w p 2 _).mono fun _ _ e => .inl e
  obtain ⟨a1, ha1⟩ : ∃ a1, a1 = accOf true ng := ⟨_, rfl⟩
  have h3 := hb.setAcc a1
  have t3 : Turn (fun k => k = p ∨ k = b) w ((w.setCell ⟨p, 2, none⟩ (.int .i8 0)).setCell ⟨p, 2, none⟩ (.int .i8 a1)) := tB.trans' ((set_turn _ p 2 _).mono fun _ _ e => .inl e)
  have h3d := h3.still ((Turn.refl (fun _ => False) _).drew)
  have hle : 2 ^ s < 18446744073709551616 := by
    have : (2 : Nat) ^ s ≤ 2 ^ 63 := Nat.pow_le_pow_right (by omega) (by omega)
    rw [pw63] at this
    omega
  have hA : Calls Tryz.prog 187 #[.slice (some ⟨b, 0, none⟩) 1 c, .slice (some ⟨b, 0, none⟩) 1 c, .int .u64 (2 ^ s)] ((w.setCell ⟨p, 2, none⟩ (.int .i8 0)).setCell ⟨p, 2, none⟩ (.int .i8 a1)).drew (AwPost b 0 1 (2 ^ s) f ((w.setCell ⟨p, 2, none⟩ (.int .i8 0)).setCell ⟨p, 2, none⟩ (.int .i8 a1)).drew) := by
    rw [← two_pow_i]; exact addVW_same b 0 c c 0 (2 ^ s) f _ (by omega) (h3d.nt.2.2.2.1.mono h3d.nt.1) hle
  obtain ⟨j0, j1, j2, j3, j4, j5, j6, jz, jt, jp, -⟩ := h3d
  simp only [nv] at j5
  have hpl := h.lt
  have hpl2 : p < ((w.setCell ⟨p, 2, none⟩ (.int .i8 0)).setCell ⟨p, 2, none⟩ (.int .i8 a1)).drew.heap.size := Nat.lt_of_lt_of_le hpl t3.size
  have ep : p ≠ b := fun e => hne e.symm
  obtain ⟨U, hU⟩ : ∃ U, U = (f 0 + 2 ^ s) % 18446744073709551616 := ⟨_, rfl⟩
  have haw : aw f (2 ^ s) 0 = U := by show (f 0 + 2 ^ s) % _ = U; rw [hg0, hU]
  have hUl : U < 18446744073709551616 := by rw [hU]; exact Nat.mod_lt _ (by omega)
  have hac : acr f (2 ^ s) 1 = 1 := by
    show (f 0 + 2 ^ s) / 18446744073709551616 = 1
    rw [hg0]
    have := hT.lt
    omega
  obtain ⟨hov, hzl⟩ := over_word hT hc
  rw [← hU] at hov hzl
  have hcut : Cut (vl f 1) s pr s ng ex a1 (ex + 1) (2 ^ 63) := .over hT hu ha1 hR hc
  obtain ⟨Z, hZ⟩ : ∃ Z, Z = U / 2 := ⟨_, rfl⟩
  rw [← hZ] at hov hzl
  obtain ⟨V, hV⟩ : ∃ V, V = Z ||| 9223372036854775808 := ⟨_, rfl⟩
  have hVl : V < 18446744073709551616 := by rw [hV]; exact Nat.or_lt_two_pow (n := 64) (by omega) (by omega)
  have hO : bits .or .u64 (Z : Int) 9223372036854775808 = (V : Int) := by rw [hV]; exact u64_or_nat Z 9223372036854775808 (by omega) (by omega)
  rw [← hV] at hov
  have hN := andNot_low (a := V) (K := s) hVl (by omega)
  rw [hov, show ((2 ^ 63 : Nat) : Int) = 9223372036854775808 by decide] at hN
  have tw := tw190
  have he1 : ¬ (2147483647 : Int) ≤ ex := by omega
  have he2 : IntKind.i32.wrap (ex + 1) = ex + 1 := IntWalk.i32_in _ (by omega)
  have hlast := Lib.hid fun wa (r : Rw b 0 1 ((w.setCell ⟨p, 2, none⟩ (.int .i8 0)).setCell ⟨p, 2, none⟩ (.int .i8 a1)).drew wa) (g' : Wd wa b 0 1 (aw f (2 ^ s))) =>
    (show Fl (wa.setCell ⟨p, 6, none⟩ (.int .i32 (ex + 1))).drew p pr a1 1 ng (some (b, c)) 1 _ (ex + 1) ∧ Turn (fun k => k = p ∨ k = b) w (wa.setCell ⟨p, 6, none⟩ (.int .i32 (ex + 1))).drew from
      ⟨((Fl.head (h3.still ((Turn.refl (fun _ => False) _).drew)) r g').setExp (ex + 1)).still ((Turn.refl (fun _ => False) _).drew), (t3.drew.trans' (r.turn.mono fun _ _ e => .inr e)).trans' (((set_turn wa p 6 _).mono fun _ _ e => .inl e).drew)⟩)
  have hend := Lib.hid fun (wb W : World) (g' : Nat → Nat) (h5 : Fl W p pr a1 1 ng (some (b, c)) 1 g' (ex + 1)) (t5 : Turn (fun k => k = p ∨ k = b) w W) (r : Rw b 0 1 W wb) (gg : Wd wb b 0 1 (rw' g' 0 1 63)) =>
    (show CRes w p pr ng b c (vl f 1) s s ex (.returned (.tuple #[])) ((wb.setCell ⟨b, 0, none⟩ (.int .u64 (V : Nat))).setCell ⟨b, 0, none⟩ (.int .u64 ((2 ^ 63 : Nat) : Int))) from
      CRes.last (v := 2 ^ 63) ((Fl.head h5 r gg).word (k := 0) (by have := h5.nt.1; omega) hVl) ((t5.trans' (r.turn.mono fun _ _ e => .inr e)).trans' ((set_turn wb b 0 _).mono fun _ _ e => .inr e)) (by omega) hcut)
  rw [show ((2 ^ 63 : Nat) : Int) = 9223372036854775808 by decide] at hend
  have d2 := h.c2
  have d3 := h.fz 2
  obtain ⟨k0, k1, k2, k3, k4, k5, k6, fz, nt, ap, -⟩ := h1
  simp only [nv] at k5
  have hm : ¬ (64 : Int) ≤ pr := by omega
  have hn2 : ((pr : Int) + 63) / 64 = 1 := by omega
  have b1 : bits .and .u64 0 1 = 0 := by decide
  have b1' : bits .and .u64 1 1 = 1 := by decide
  have b2 : bits .or .u64 0 0 = 0 := by decide
  have b3 : bits .or .u64 0 1 = 1 := by decide
  have b4 : bits .or .u64 1 0 = 1 := by decide
  have b5 : bits .or .u64 1 1 = 1 := by decide
  have hK3 : (64 : Int) - (pr : Int) = (s : Int) := by omega
  have hc0 := hwd 0 (by omega)
  rw [Nat.zero_add] at hc0
  obtain ⟨cx, fx, lx⟩ := hc0
  have hM := makeAcc_any (!ng) (w.setCell ⟨p, 2, none⟩ (.int .i8 0))
  rw [show (if (!ng) = true then (1 : Int) else -1) = a1 by rw [ha1]; cases ng <;> rfl] at hM
  replace h3 := Lib.hid h3
  replace t3 := Lib.hid t3
  replace haw := Lib.hid haw
  replace hac := Lib.hid hac
  clear h nt ap fz hwd hr hrb hsb hu hR hr0 hcut lx tB ha1
  clear hb hg0
  clear ho
  clear jz jt jp hU
  clear hT
  replace hZ := Lib.hid hZ
  clear hV hov hc
  generalize vl f 1 = M at *
  generalize hTT : f 0 = T at *
  replace hTT := Lib.hid hTT
  go_enter Tryz.func175, Tryz.ntmps175
  go_wp2_with (first
    | (go_at_call 196; ((with_reducible refine hB.mono ?_)); rintro e w' ⟨rfl, rfl⟩)
    | (go_at_call 147; ((with_reducible refine hS.mono ?_)); rintro e w' ⟨rfl, rfl⟩)
    | (go_at_call 174; ((with_reducible refine hM.mono ?_)); rintro e w' ⟨rfl, rfl⟩))
  go_region_law ((go_simp; go_at_call 187; ((with_reducible refine hA.mono ?_)); rintro e wa ⟨rfl, g1, g2⟩
                  rw [hac.out]
                  have l5 := (g1.turn.cell (p := ⟨p, 5, none⟩) hpl2 ep).trans j5
                  have l6 := (g1.turn.cell (p := ⟨p, 6, none⟩) hpl2 ep).trans j6
                  have lz := (g1.turn.frozen (p := ⟨p, 6, none⟩) hpl2 ep).trans (h3.out.fz 6)
                  have hl2 := hlast.out wa g1 g2
                  obtain ⟨h5, t5⟩ := hl2
                  have hw5 : Wd _ b 0 1 _ := h5.nt.2.2.2.1.mono h5.nt.1
                  have hR1 : Calls Tryz.prog 89 #[.slice (some ⟨b, 0, none⟩) 1 c, .slice (some ⟨b, 0, none⟩) 1 c, .int .u64 1] _ _ := rsh_call b c b 0 c 1 1 63 _ _ _ (by omega) (by omega) hw5 hw5 rfl (by omega) (by omega)
                  have i5 := h5.c5
                  simp only [nv] at i5
                  have hpl5 := h5.lt
                  have hfin := Lib.hid fun wb => hend.out wb _ _ h5 t5
                  replace h5 := Lib.hid h5
                  clear hlast g1 g2 hw5))
  all_goals go_wp2_with fail
  all_goals go_region_law ((go_simp; go_at_call 89; ((with_reducible refine hR1.mono ?_)); rintro e wb ⟨v, rfl, g3, g4⟩
                            have l7 := (g3.turn.cell (p := ⟨p, 5, none⟩) hpl5 ep).trans i5
                            have hlast2 := Lib.hid (hfin.out wb g3 g4)
                            have g5 := g4 0 (by omega)
                            rw [show rw' _ (1 - 1) 1 63 0 = Z from by rw [hZ.out, ← haw.out]; rfl, Nat.zero_add] at g5
                            obtain ⟨m0, m1, -⟩ := g5
                            clear g3 g4 hfin))
  all_goals go_wp2_with fail
  all_goals (refine bodyPost_end (results_none rfl _ _ _) rfl ?_; exact hlast2.out)
set_option maxRecDepth 100000 in
set_option maxHeartbeats 4000000 in
theorem cut_one_11 {p pr : Nat} {acc : Int} {ng : Bool} {f : Nat → Nat} {ex : Int} (b c s : Nat) (w : World) (h : Fl w p pr acc 1 ng (some (b, c)) 1 f ex) (hT : Top (vl f 1) s pr s (f 0)) (_he : -100000 ≤ ex ∧ ex ≤ 100000)
    (hrb : vl f 1 / 2 ^ (s - 1) % 2 = 1) (hsb : vl f 1 % 2 ^ (s - 1) ≠ 0) (hc : f 0 + 2 ^ s < 18446744073709551616) :
    Calls Tryz.prog 175 #[.pointer (some ⟨p, 0, none⟩), .int .u64 0] w (CRes w p pr ng b c (vl f 1) s s ex) := by
  have h1 := h.setAcc 0
  have hne : b ≠ p := fun e => h.ap ⟨c, by rw [e]⟩
  have hwd : Wd (w.setCell ⟨p, 2, none⟩ (.int .i8 0)) b 0 1 f := h1.nt.2.2.2.1.mono h1.nt.1
  have ps := hT.ps
  have p1 := hT.p1
  have p2 := hT.p2
  have hB := bit_any b c 1 (s - 1) f _ hwd (by omega) (by omega)
  have hS := sticky_any b c 1 (s - 1) f _ hwd (by omega) (by omega) h1.nt.1
  have hr0 : vl f 1 % 2 ^ s = vl f 1 / 2 ^ (s - 1) % 2 * 2 ^ (s - 1) + vl f 1 % 2 ^ (s - 1) := (rup_parts _ s hT.K1).1
  rw [hrb] at hB hr0
  rw [stk_pos hsb] at hS
  have hr : (s : Int) - 1 = ((s - 1 : Nat) : Int) := by omega
  rw [← hr] at hB hS
  have hu : rup (vl f 1) s = true := by rw [rup_one hT.K1 hrb, if_neg hsb]
  have hR : vl f 1 % 2 ^ s ≠ 0 := by have := Nat.two_pow_pos (s - 1); omega
  obtain ⟨w1, w2'⟩ := wrap_two (s := s) (by omega)
  have hb : Fl (w.setCell ⟨p, 2, none⟩ (.int .i8 0)) p pr 0 1 ng (some (b, c)) 1 f ex := h1
  have hg0 : f 0 = f 0 := rfl
  have tB : Turn (fun k => k = p ∨ k = b) w (w.setCell ⟨p, 2, none⟩ (.int .i8 0)) := (set_turn w p 2 _).mono fun _ _ e => .inl e
  obtain ⟨a1, ha1⟩ : ∃ a1, a1 = accOf true ng := ⟨_, rfl⟩
  have h3 := hb.setAcc a1
  have t3 : Turn (fun k => k = p ∨ k = b) w ((w.setCell ⟨p, 2, none⟩ (.int .i8 0)).setCell ⟨p, 2, none⟩ (.int .i8 a1)) := tB.trans' ((set_turn _ p 2 _).mono fun _ _ e => .inl e)
  have h3d := h3.still ((Turn.refl (fun _ => False) _).drew)
  have hle : 2 ^ s < 18446744073709551616 := by
    have : (2 : Nat) ^ s ≤ 2 ^ 63 := Nat.pow_le_pow_right (by omega) (by omega)
    rw [pw63] at this
    omega
  have hA : Calls Tryz.prog 187 #[.slice (some ⟨b, 0, none⟩) 1 c, .slice (some ⟨b, 0, none⟩) 1 c, .int .u64 (2 ^ s)] ((w.setCell ⟨p, 2, none⟩ (.int .i8 0)).setCell ⟨p, 2, none⟩ (.int .i8 a1)).drew (AwPost b 0 1 (2 ^ s) f ((w.setCell ⟨p, 2, none⟩ (.int .i8 0)).setCell ⟨p, 2, none⟩ (.int .i8 a1)).drew) := by
    rw [← two_pow_i]; exact addVW_same b 0 c c 0 (2 ^ s) f _ (by omega) (h3d.nt.2.2.2.1.mono h3d.nt.1) hle
  obtain ⟨j0, j1, j2, j3, j4, j5, j6, jz, jt, jp, -⟩ := h3d
  simp only [nv] at j5
  have hpl := h.lt
  have hpl2 : p < ((w.setCell ⟨p, 2, none⟩ (.int .i8 0)).setCell ⟨p, 2, none⟩ (.int .i8 a1)).drew.heap.size := Nat.lt_of_lt_of_le hpl t3.size
  have ep : p ≠ b := fun e => hne e.symm
  obtain ⟨U, hU⟩ : ∃ U, U = (f 0 + 2 ^ s) % 18446744073709551616 := ⟨_, rfl⟩
  have haw : aw f (2 ^ s) 0 = U := by show (f 0 + 2 ^ s) % _ = U; rw [hg0, hU]
  have hUl : U < 18446744073709551616 := by rw [hU]; exact Nat.mod_lt _ (by omega)
  have hac : acr f (2 ^ s) 1 = 0 := by show (f 0 + 2 ^ s) / _ = 0; rw [hg0]; exact Nat.div_eq_of_lt hc
  have hUe : U = f 0 + 2 ^ s := by rw [hU]; exact Nat.mod_eq_of_lt hc
  have hcut : Cut (vl f 1) s pr s ng ex a1 ex (U / 2 ^ s * 2 ^ s) := by rw [hUe]; exact .up hT hu ha1 hR hc
  have hN := andNot_low (a := U) (K := s) hUl (by omega)
  have hlast := Lib.hid fun wa (r : Rw b 0 1 ((w.setCell ⟨p, 2, none⟩ (.int .i8 0)).setCell ⟨p, 2, none⟩ (.int .i8 a1)).drew wa) (g' : Wd wa b 0 1 (aw f (2 ^ s))) =>
    CRes.last (v := U / 2 ^ s * 2 ^ s) (Fl.head (h3.still ((Turn.refl (fun _ => False) _).drew)) r g') (t3.drew.trans' (r.turn.mono fun _ _ e => .inr e)) (Nat.lt_of_le_of_lt (Nat.div_mul_le_self _ _) hUl) hcut
  have d2 := h.c2
  have d3 := h.fz 2
  obtain ⟨k0, k1, k2, k3, k4, k5, k6, fz, nt, ap, -⟩ := h1
  simp only [nv] at k5
  have hm : ¬ (64 : Int) ≤ pr := by omega
  have hn2 : ((pr : Int) + 63) / 64 = 1 := by omega
  have b1 : bits .and .u64 0 1 = 0 := by decide
  have b1' : bits .and .u64 1 1 = 1 := by decide
  have b2 : bits .or .u64 0 0 = 0 := by decide
  have b3 : bits .or .u64 0 1 = 1 := by decide
  have b4 : bits .or .u64 1 0 = 1 := by decide
  have b5 : bits .or .u64 1 1 = 1 := by decide
  have hK3 : (64 : Int) - (pr : Int) = (s : Int) := by omega
  have hc0 := hwd 0 (by omega)
  rw [Nat.zero_add] at hc0
  obtain ⟨cx, fx, lx⟩ := hc0
  have hM := makeAcc_any (!ng) (w.setCell ⟨p, 2, none⟩ (.int .i8 0))
  rw [show (if (!ng) = true then (1 : Int) else -1) = a1 by rw [ha1]; cases ng <;> rfl] at hM
  replace h3 := Lib.hid h3
  replace t3 := Lib.hid t3
  replace haw := Lib.hid haw
  replace hac := Lib.hid hac
  clear h nt ap fz hwd hr hrb hsb hu hR hr0 hcut lx tB ha1
  clear hb hg0
  clear jz jt jp hU
  clear hT
  clear hUe hc
  generalize vl f 1 = M at *
  generalize hTT : f 0 = T at *
  replace hTT := Lib.hid hTT
  go_enter Tryz.func175, Tryz.ntmps175
  go_wp2_with (first
    | (go_at_call 196; ((with_reducible refine hB.mono ?_)); rintro e w' ⟨rfl, rfl⟩)
    | (go_at_call 147; ((with_reducible refine hS.mono ?_)); rintro e w' ⟨rfl, rfl⟩)
    | (go_at_call 174; ((with_reducible refine hM.mono ?_)); rintro e w' ⟨rfl, rfl⟩))
  go_region_law ((go_simp; go_at_call 187; ((with_reducible refine hA.mono ?_)); rintro e wa ⟨rfl, g1, g2⟩
                  rw [hac.out]
                  have l5 := (g1.turn.cell (p := ⟨p, 5, none⟩) hpl2 ep).trans j5
                  have g0 := g2 0 (by omega)
                  rw [haw.out, Nat.zero_add] at g0
                  obtain ⟨m0, m1, -⟩ := g0
                  have hl2 := Lib.hid (hlast.out wa g1 g2)
                  clear g1 g2))
  all_goals go_wp2_with fail
  all_goals (refine bodyPost_end (results_none rfl _ _ _) rfl ?_; exact hl2.out)
set_option maxRecDepth 100000 in
set_option maxHeartbeats 4000000 in
theorem cut_one_11v {p pr : Nat} {acc : Int} {ng : Bool} {f : Nat → Nat} {ex : Int} (b c s : Nat) (w : World) (h : Fl w p pr acc 1 ng (some (b, c)) 1 f ex) (hT : Top (vl f 1) s pr s (f 0)) (_he : -100000 ≤ ex ∧ ex ≤ 100000)
    (hrb : vl f 1 / 2 ^ (s - 1) % 2 = 1) (hsb : vl f 1 % 2 ^ (s - 1) ≠ 0) (hc : 18446744073709551616 ≤ f 0 + 2 ^ s) :
    Calls Tryz.prog 175 #[.pointer (some ⟨p, 0, none⟩), .int .u64 0] w (CRes w p pr ng b c (vl f 1) s s ex) := by
  have h1 := h.setAcc 0
  have hne : b ≠ p := fun e => h.ap ⟨c, by rw [e]⟩
  have hwd : Wd (w.setCell ⟨p, 2, none⟩ (.int .i8 0)) b 0 1 f := h1.nt.2.2.2.1.mono h1.nt.1
  have ps := hT.ps
  have p1 := hT.p1
  have p2 := hT.p2
  have hB := bit_any b c 1 (s - 1) f _ hwd (by omega) (by omega)
  have hS := sticky_any b c 1 (s - 1) f _ hwd (by omega) (by omega) h1.nt.1
  have hr0 : vl f 1 % 2 ^ s = vl f 1 / 2 ^ (s - 1) % 2 * 2 ^ (s - 1) + vl f 1 % 2 ^ (s - 1) := (rup_parts _ s hT.K1).1
  rw [hrb] at hB hr0
  rw [stk_pos hsb] at hS
  have hr : (s : Int) - 1 = ((s - 1 : Nat) : Int) := by omega
  rw [← hr] at hB hS
  have hu : rup (vl f 1) s = true := by rw [rup_one hT.K1 hrb, if_neg hsb]
  have hR : vl f 1 % 2 ^ s ≠ 0 := by have := Nat.two_pow_pos (s - 1); omega
  obtain ⟨w1, w2'⟩ := wrap_two (s := s) (by omega)
  have hb : Fl (w.setCell ⟨p, 2, none⟩ (.int .i8 0)) p pr 0 1 ng (some (b, c)) 1 f ex := h1
  have hg0 : f 0 = f 0 := rfl
  have tB : Turn (fun k => k = p ∨ k = b) w (w.setCell ⟨p, 2, none⟩ (.int .i8 0)) := (set_turn w p 2 _).mono fun _ _ e => .inl e
  obtain ⟨a1, ha1⟩ : ∃ a1, a1 = accOf true ng := ⟨_, rfl⟩
  have h3 := hb.setAcc a1
  have t3 : Turn (fun k => k = p ∨ k = b) w ((w.setCell ⟨p, 2, none⟩ (.int .i8 0)).setCell ⟨p, 2, none⟩ (.int .i8 a1)) := tB.trans' ((set_turn _ p 2 _).mono fun _ _ e => .inl e)
  have h3d := h3.still ((Turn.refl (fun _ => False) _).drew)
  have hle : 2 ^ s < 18446744073709551616 := by
    have : (2 : Nat) ^ s ≤ 2 ^ 63 := Nat.pow_le_pow_right (by omega) (by omega)
    rw [pw63] at this
    omega
  have hA : Calls Tryz.prog 187 #[.slice (some ⟨b, 0, none⟩) 1 c, .slice (some ⟨b, 0, none⟩) 1 c, .int .u64 (2 ^ s)] ((w.setCell ⟨p, 2, none⟩ (.int .i8 0)).setCell ⟨p, 2, none⟩ (.int .i8 a1)).drew (AwPost b 0 1 (2 ^ s) f ((w.setCell ⟨p, 2, none⟩ (.int .i8 0)).setCell ⟨p, 2, none⟩ (.int .i8 a1)).drew) := by
    rw [← two_pow_i]; exact addVW_same b 0 c c 0 (2 ^ s) f _ (by omega) (h3d.nt.2.2.2.1.mono h3d.nt.1) hle
  obtain ⟨j0, j1, j2, j3, j4, j5, j6, jz, jt, jp, -⟩ := h3d
  simp only [nv] at j5
  have hpl := h.lt
  have hpl2 : p < ((w.setCell ⟨p, 2, none⟩ (.int .i8 0)).setCell ⟨p, 2, none⟩ (.int .i8 a1)).drew.heap.size := Nat.lt_of_lt_of_le hpl t3.size
  have ep : p ≠ b := fun e => hne e.symm
  obtain ⟨U, hU⟩ : ∃ U, U = (f 0 + 2 ^ s) % 18446744073709551616 := ⟨_, rfl⟩
  have haw : aw f (2 ^ s) 0 = U := by show (f 0 + 2 ^ s) % _ = U; rw [hg0, hU]
  have hUl : U < 18446744073709551616 := by rw [hU]; exact Nat.mod_lt _ (by omega)
  have hac : acr f (2 ^ s) 1 = 1 := by
    show (f 0 + 2 ^ s) / 18446744073709551616 = 1
    rw [hg0]
    have := hT.lt
    omega
  obtain ⟨hov, hzl⟩ := over_word hT hc
  rw [← hU] at hov hzl
  have hcut : Cut (vl f 1) s pr s ng ex a1 (ex + 1) (2 ^ 63) := .over hT hu ha1 hR hc
  obtain ⟨Z, hZ⟩ : ∃ Z, Z = U / 2 := ⟨_, rfl⟩
  rw [← hZ] at hov hzl
  obtain ⟨V, hV⟩ : ∃ V, V = Z ||| 9223372036854775808 := ⟨_, rfl⟩
  have hVl : V < 18446744073709551616 := by rw [hV]; exact Nat.or_lt_two_pow (n := 64) (by omega) (by omega)
  have hO : bits .or .u64 (Z : Int) 9223372036854775808 = (V : Int) := by rw [hV]; exact u64_or_nat Z 9223372036854775808 (by omega) (by omega)
  rw [← hV] at hov
  have hN := andNot_low (a := V) (K := s) hVl (by omega)
  rw [hov, show ((2 ^ 63 : Nat) : Int) = 9223372036854775808 by decide] at hN
  have tw := tw190
  have he1 : ¬ (2147483647 : Int) ≤ ex := by omega
  have he2 : IntKind.i32.wrap (ex + 1) = ex + 1 := IntWalk.i32_in _ (by omega)
  have hlast := Lib.hid fun wa (r : Rw b 0 1 ((w.setCell ⟨p, 2, none⟩ (.int .i8 0)).setCell ⟨p, 2, none⟩ (.int .i8 a1)).drew wa) (g' : Wd wa b 0 1 (aw f (2 ^ s))) =>
    (show Fl (wa.setCell ⟨p, 6, none⟩ (.int .i32 (ex + 1))).drew p pr a1 1 ng (some (b, c)) 1 _ (ex + 1) ∧ Turn (fun k => k = p ∨ k = b) w (wa.setCell ⟨p, 6, none⟩ (.int .i32 (ex + 1))).drew from
      ⟨((Fl.head (h3.still ((Turn.refl (fun _ => False) _).drew)) r g').setExp (ex + 1)).still ((Turn.refl (fun _ => False) _).drew), (t3.drew.trans' (r.turn.mono fun _ _ e => .inr e)).trans' (((set_turn wa p 6 _).mono fun _ _ e => .inl e).drew)⟩)
  have hend := Lib.hid fun (wb W : World) (g' : Nat → Nat) (h5 : Fl W p pr a1 1 ng (some (b, c)) 1 g' (ex + 1)) (t5 : Turn (fun k => k = p ∨ k = b) w W) (r : Rw b 0 1 W wb) (gg : Wd wb b 0 1 (rw' g' 0 1 63)) =>
    (show CRes w p pr ng b c (vl f 1) s s ex (.returned (.tuple #[])) ((wb.setCell ⟨b, 0, none⟩ (.int .u64 (V : Nat))).setCell ⟨b, 0, none⟩ (.int .u64 ((2 ^ 63 : Nat) : Int))) from
      CRes.last (v := 2 ^ 63) ((Fl.head h5 r gg).word (k := 0) (by have := h5.nt.1; omega) hVl) ((t5.trans' (r.turn.mono fun _ _ e => .inr e)).trans' ((set_turn wb b 0 _).mono fun _ _ e => .inr e)) (by omega) hcut)
  rw [show ((2 ^ 63 : Nat) : Int) = 9223372036854775808 by decide] at hend
  have d2 := h.c2
  have d3 := h.fz 2
  obtain ⟨k0, k1, k2, k3, k4, k5, k6, fz, nt, ap, -⟩ := h1
  simp only [nv] at k5
  have hm : ¬ (64 : Int) ≤ pr := by omega
  have hn2 : ((pr : Int) + 63) / 64 = 1 := by omega
  have b1 : bits .and .u64 0 1 = 0 := by decide
  have b1' : bits .and .u64 1 1 = 1 := by decide
  have b2 : bits .or .u64 0 0 = 0 := by decide
  have b3 : bits .or .u64 0 1 = 1 := by decide
  have b4 : bits .or .u64 1 0 = 1 := by decide
  have b5 : bits .or .u64 1 1 = 1 := by decide
  have hK3 : (64 : Int) - (pr : Int) = (s : Int) := by omega
  have hc0 := hwd 0 (by omega)
  rw [Nat.zero_add] at hc0
  obtain ⟨cx, fx, lx⟩ := hc0
  have hM := makeAcc_any (!ng) (w.setCell ⟨p, 2, none⟩ (.int .i8 0))
  rw [show (if (!ng) = true then (1 : Int) else -1) = a1 by rw [ha1]; cases ng <;> rfl] at hM
  replace h3 := Lib.hid h3
  replace t3 := Lib.hid t3
  replace haw := Lib.hid haw
  replace hac := Lib.hid hac
  clear h nt ap fz hwd hr hrb hsb hu hR hr0 hcut lx tB ha1
  clear hb hg0
  clear jz jt jp hU
  clear hT
  replace hZ := Lib.hid hZ
  clear hV hov hc
  generalize vl f 1 = M at *
  generalize hTT : f 0 = T at *
  replace hTT := Lib.hid hTT
  go_enter Tryz.func175, Tryz.ntmps175
  go_wp2_with (first
    | (go_at_call 196; ((with_reducible refine hB.mono ?_)); rintro e w' ⟨rfl, rfl⟩)
    | (go_at_call 147; ((with_reducible refine hS.mono ?_)); rintro e w' ⟨rfl, rfl⟩)
    | (go_at_call 174; ((with_reducible refine hM.mono ?_)); rintro e w' ⟨rfl, rfl⟩))
  go_region_law ((go_simp; go_at_call 187; ((with_reducible refine hA.mono ?_)); rintro e wa ⟨rfl, g1, g2⟩
                  rw [hac.out]
                  have l5 := (g1.turn.cell (p := ⟨p, 5, none⟩) hpl2 ep).trans j5
                  have l6 := (g1.turn.cell (p := ⟨p, 6, none⟩) hpl2 ep).trans j6
                  have lz := (g1.turn.frozen (p := ⟨p, 6, none⟩) hpl2 ep).trans (h3.out.fz 6)
                  have hl2 := hlast.out wa g1 g2
                  obtain ⟨h5, t5⟩ := hl2
                  have hw5 : Wd _ b 0 1 _ := h5.nt.2.2.2.1.mono h5.nt.1
                  have hR1 : Calls Tryz.prog 89 #[.slice (some ⟨b, 0, none⟩) 1 c, .slice (some ⟨b, 0, none⟩) 1 c, .int .u64 1] _ _ := rsh_call b c b 0 c 1 1 63 _ _ _ (by omega) (by omega) hw5 hw5 rfl (by omega) (by omega)
                  have i5 := h5.c5
                  simp only [nv] at i5
                  have hpl5 := h5.lt
                  have hfin := Lib.hid fun wb => hend.out wb _ _ h5 t5
                  replace h5 := Lib.hid h5
                  clear hlast g1 g2 hw5))
  all_goals go_wp2_with fail
  all_goals go_region_law ((go_simp; go_at_call 89; ((with_reducible refine hR1.mono ?_)); rintro e wb ⟨v, rfl, g3, g4⟩
                            have l7 := (g3.turn.cell (p := ⟨p, 5, none⟩) hpl5 ep).trans i5
                            have hlast2 := Lib.hid (hfin.out wb g3 g4)
                            have g5 := g4 0 (by omega)
                            rw [show rw' _ (1 - 1) 1 63 0 = Z from by rw [hZ.out, ← haw.out]; rfl, Nat.zero_add] at g5
                            obtain ⟨m0, m1, -⟩ := g5
                            clear g3 g4 hfin))
  all_goals go_wp2_with fail
  all_goals (refine bodyPost_end (results_none rfl _ _ _) rfl ?_; exact hlast2.out)
end
end Go.Proofs.YtllapbkoildfiaaGreatFmt
