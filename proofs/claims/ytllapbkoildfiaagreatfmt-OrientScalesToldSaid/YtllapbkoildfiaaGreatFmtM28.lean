/- math/big.Float: round to few bits, joined; setExpAndRound · math/big.Float: SetInt, SetMantExp · math/big.Float: SetInt of 0; Copy onto itself; SetMantExp · math/big.Float: Set, into a new one of few bits. -/
import Derived.Test.YtllapbkoildfiaaGreatFmtM27
set_option linter.all false
namespace Go.Proofs.YtllapbkoildfiaaGreatFmt
section
open Go.RowKit
variable {w w' : World} {p pr : Nat} {acc : Int} {fm : Nat} {ng : Bool} {n : Nat} {f : Nat → Nat} {ex : Int}
theorem round_cut (b c : Nat) (w : World) (h : Fl w p pr acc 1 ng (some (b, c)) n f ex) (hn1 : 1 ≤ n) (hn : n ≤ 10000) (ht : 9223372036854775808 ≤ f (n - 1)) (p1 : 1 ≤ pr) (p2 : pr ≤ 53) (he : -100000 ≤ ex ∧ ex ≤ 100000) :
    Calls Tryz.prog 175 #[.pointer (some ⟨p, 0, none⟩), .int .u64 0] w (CRes w p pr ng b c (vl f n) (64 * n - pr) (64 - pr) ex) := by
  obtain ⟨k, rfl⟩ : ∃ k, n = k + 1 := ⟨n - 1, by omega⟩
  rw [Nat.add_sub_cancel] at ht
  have hT := Top.of (f := f) (m := k) (pr := pr) (s := 64 - pr) h.nt.bd ht (by omega) p1 p2
  have hK : 64 * k + (64 - pr) = 64 * (k + 1) - pr := by omega
  rcases Nat.eq_zero_or_pos k with rfl | hk
  · have hK0 : 64 * 0 + (64 - pr) = 64 - pr := by omega
    have hK1 : 64 * (0 + 1) - pr = 64 - pr := by omega
    rw [hK0] at hT
    rw [hK1]
    have hT : Top (vl f 1) (64 - pr) pr (64 - pr) (f 0) := hT
    show Calls Tryz.prog 175 _ w (CRes w p pr ng b c (vl f 1) _ _ ex)
    have h : Fl w p pr acc 1 ng (some (b, c)) 1 f ex := h
    rcases Nat.mod_two_eq_zero_or_one (vl f 1 / 2 ^ (64 - pr - 1)) with hrb | hrb
    · by_cases hsb : vl f 1 % 2 ^ (64 - pr - 1) = 0
      · exact cut_one_00 b c _ w h hT he hrb hsb
      · exact cut_one_01 b c _ w h hT he hrb hsb
    · rcases Nat.lt_or_ge (f 0 + 2 ^ (64 - pr)) 18446744073709551616 with hc | hc
      · by_cases hsb : vl f 1 % 2 ^ (64 - pr - 1) = 0
        · by_cases ho : f 0 / 2 ^ (64 - pr) % 2 = 1
          · exact cut_one_10o b c _ w h hT he hrb hsb ho hc
          · exact cut_one_10e b c _ w h hT he hrb hsb ho
        · exact cut_one_11 b c _ w h hT he hrb hsb hc
      · by_cases hsb : vl f 1 % 2 ^ (64 - pr - 1) = 0
        · by_cases ho : f 0 / 2 ^ (64 - pr) % 2 = 1
          · exact cut_one_10v b c _ w h hT he hrb hsb ho hc
          · exact cut_one_10e b c _ w h hT he hrb hsb ho
        · exact cut_one_11v b c _ w h hT he hrb hsb hc
  · rw [hK] at hT
    obtain ⟨K, hKe⟩ : ∃ K, K = 64 * (k + 1) - pr := ⟨_, rfl⟩
    rw [← hKe] at hT ⊢
    have hK2 : K = 64 * k + (64 - pr) := by omega
    rcases Nat.mod_two_eq_zero_or_one (vl f (k + 1) / 2 ^ (K - 1)) with hrb | hrb
    · by_cases hsb : vl f (k + 1) % 2 ^ (K - 1) = 0
      · exact cut_many_00 b c _ K w h hk (by omega) hK2 hT he hrb hsb
      · exact cut_many_01 b c _ K w h hk (by omega) hK2 hT he hrb hsb
    · rcases Nat.lt_or_ge (f k + 2 ^ (64 - pr)) 18446744073709551616 with hc | hc
      · by_cases hsb : vl f (k + 1) % 2 ^ (K - 1) = 0
        · by_cases ho : f k / 2 ^ (64 - pr) % 2 = 1
          · exact cut_many_10o b c _ K w h hk (by omega) hK2 hT he hrb hsb ho hc
          · exact cut_many_10e b c _ K w h hk (by omega) hK2 hT he hrb hsb ho
        · exact cut_many_11 b c _ K w h hk (by omega) hK2 hT he hrb hsb hc
      · by_cases hsb : vl f (k + 1) % 2 ^ (K - 1) = 0
        · by_cases ho : f k / 2 ^ (64 - pr) % 2 = 1
          · exact cut_many_10v b c _ K w h hk (by omega) hK2 hT he hrb hsb ho hc
          · exact cut_many_10e b c _ K w h hk (by omega) hK2 hT he hrb hsb ho
        · exact cut_many_11v b c _ K w h hk (by omega) hK2 hT he hrb hsb hc
def Fits (pr n M : Nat) : Prop := 64 * n ≤ pr ∨ ∃ K, 1 ≤ K ∧ K ≤ 63 ∧ 64 * n = pr + K ∧ M % 2 ^ K = 0
theorem round_fits (b c : Nat) (w : World) (h : Fl w p pr acc 1 ng (some (b, c)) n f ex) (hn : n ≤ 100000) (hF : Fits pr n (vl f n)) :
    Calls Tryz.prog 175 #[.pointer (some ⟨p, 0, none⟩), .int .u64 0] w (FRes w p pr 0 ng (some (b, c)) n (fun g => vl g n = vl f n) ex) := by
  rcases hF with hF | ⟨K, h1, h2, h3, h4⟩
  · exact round_fit b c w h hF hn
  · exact round_same b c K w h h1 h2 h3 hn h4
theorem Fl.setForm {o : Option (Nat × Nat)} (h : Fl w p pr acc fm ng o n f ex) (m : Nat) : Fl (w.setCell ⟨p, 3, none⟩ (.int .u8 (m : Nat))) p pr acc m ng o n f ex := by
  have k : ∀ j, 3 ≠ j → (w.setCell ⟨p, 3, none⟩ (.int .u8 (m : Nat))).cell? ⟨p, j, none⟩ = w.cell? ⟨p, j, none⟩ := fun j hj => set_other w p 3 j _ hj
  exact ⟨(k 0 (by omega)).trans h.c0, (k 1 (by omega)).trans h.c1, (k 2 (by omega)).trans h.c2, World.cell?_setCell_same _ _ _ h.c3, (k 4 (by omega)).trans h.c4, (k 5 (by omega)).trans h.c5, (k 6 (by omega)).trans h.c6,
    fun i => by rw [World.frozen?_setCell]; exact h.fz i, h.nt.turn (set_turn w p 3 _) fun k g e => by subst e; exact h.ap g, h.ap, h.pl.setCell _ _⟩
set_option maxRecDepth 100000 in
set_option maxHeartbeats 1000000 in
theorem setExp_any (b c : Nat) (e : Int) (w : World) (h : Fl w p pr acc fm ng (some (b, c)) n f ex) (hn : n ≤ 100000) (hF : Fits pr n (vl f n)) (he : -1000000000 ≤ e ∧ e ≤ 1000000000) :
    Calls Tryz.prog 144 #[.pointer (some ⟨p, 0, none⟩), .int .i64 e, .int .u64 0] w (FRes w p pr 0 ng (some (b, c)) n (fun g => vl g n = vl f n) e) := by
  have h1 := h.setForm 1
  have h2 := h1.setExp e
  have hR := round_fits b c _ h2 hn hF
  have t : Turn (fun k => k = p ∨ InB (some (b, c)) k) w ((w.setCell ⟨p, 3, none⟩ (.int .u8 ((1 : Nat) : Int))).setCell ⟨p, 6, none⟩ (.int .i32 e)) := ((set_turn w p 3 _).mono fun _ _ e => .inl e).trans' ((set_turn _ p 6 _).mono fun _ _ e => .inl e)
  have hfin := Lib.hid fun en w' (g : FRes ((w.setCell ⟨p, 3, none⟩ (.int .u8 ((1 : Nat) : Int))).setCell ⟨p, 6, none⟩ (.int .i32 e)) p pr 0 ng (some (b, c)) n (fun g => vl g n = vl f n) e en w') => (show FRes w p pr 0 ng (some (b, c)) n (fun g => vl g n = vl f n) e en w' by
    obtain ⟨g1, f', g2, g3, g4⟩ := g
    exact ⟨g1, f', g2, g3, t.trans' g4⟩)
  have hR : Calls Tryz.prog 175 #[.pointer (some ⟨p, 0, none⟩), .int .u64 0] ((w.setCell ⟨p, 3, none⟩ (.int .u8 1)).setCell ⟨p, 6, none⟩ (.int .i32 e)) (FRes w p pr 0 ng (some (b, c)) n (fun g => vl g n = vl f n) e) := hR.mono hfin.out
  have d3 := h.c3
  have e3 := h.fz 3
  have d6 := h.c6
  have e6 := h.fz 6
  have l1 : ¬ e < -2147483648 := by omega
  have l2 : ¬ 2147483647 < e := by omega
  have l3 : IntKind.i32.wrap e = e := IntWalk.i32_in _ (by omega)
  clear hfin h1 h2 h t hF
  go_enter Tryz.func144, Tryz.ntmps144
  go_wp2_with (go_at_call 175; ((with_reducible refine hR.mono ?_)); rintro en w' ⟨rfl, g⟩)
  refine bodyPost_end (results_none rfl _ _ _) rfl ?_
  exact ⟨rfl, g⟩
end
section
open Go.RowKit
variable {w w' : World} {p pr : Nat} {acc : Int} {fm : Nat} {ng : Bool} {n : Nat} {f : Nat → Nat} {ex : Int}
theorem Fl.setPrec {o : Option (Nat × Nat)} (h : Fl w p pr acc fm ng o n f ex) (m : Nat) : Fl (w.setCell ⟨p, 0, none⟩ (.int .u32 (m : Nat))) p m acc fm ng o n f ex := by
  have k : ∀ j, 0 ≠ j → (w.setCell ⟨p, 0, none⟩ (.int .u32 (m : Nat))).cell? ⟨p, j, none⟩ = w.cell? ⟨p, j, none⟩ := fun j hj => set_other w p 0 j _ hj
  exact ⟨World.cell?_setCell_same _ _ _ h.c0, (k 1 (by omega)).trans h.c1, (k 2 (by omega)).trans h.c2, (k 3 (by omega)).trans h.c3, (k 4 (by omega)).trans h.c4, (k 5 (by omega)).trans h.c5, (k 6 (by omega)).trans h.c6,
    fun i => by rw [World.frozen?_setCell]; exact h.fz i, h.nt.turn (set_turn w p 0 _) fun k g e => by subst e; exact h.ap g, h.ap, h.pl.setCell _ _⟩
theorem Fl.setNeg {o : Option (Nat × Nat)} (h : Fl w p pr acc fm ng o n f ex) (m : Bool) : Fl (w.setCell ⟨p, 4, none⟩ (.bool m)) p pr acc fm m o n f ex := by
  have k : ∀ j, 4 ≠ j → (w.setCell ⟨p, 4, none⟩ (.bool m)).cell? ⟨p, j, none⟩ = w.cell? ⟨p, j, none⟩ := fun j hj => set_other w p 4 j _ hj
  exact ⟨(k 0 (by omega)).trans h.c0, (k 1 (by omega)).trans h.c1, (k 2 (by omega)).trans h.c2, (k 3 (by omega)).trans h.c3, World.cell?_setCell_same _ _ _ h.c4, (k 5 (by omega)).trans h.c5, (k 6 (by omega)).trans h.c6,
    fun i => by rw [World.frozen?_setCell]; exact h.fz i, h.nt.turn (set_turn w p 4 _) fun k g e => by subst e; exact h.ap g, h.ap, h.pl.setCell _ _⟩
theorem Fl.mant {o : Option (Nat × Nat)} {b c m : Nat} {g : Nat → Nat} (h : Fl w p pr acc fm ng o n f ex) (hg : Nt w (some (b, c)) m g) (hb : b ≠ p) : Fl (w.setCell ⟨p, 5, none⟩ (.slice (some ⟨b, 0, none⟩) m c)) p pr acc fm ng (some (b, c)) m g ex := by
  have k : ∀ j, 5 ≠ j → (w.setCell ⟨p, 5, none⟩ (.slice (some ⟨b, 0, none⟩) m c)).cell? ⟨p, j, none⟩ = w.cell? ⟨p, j, none⟩ := fun j hj => set_other w p 5 j _ hj
  have ap : ¬ InB (some (b, c)) p := fun ⟨c', e⟩ => hb (by injection e with e; injection e)
  exact ⟨(k 0 (by omega)).trans h.c0, (k 1 (by omega)).trans h.c1, (k 2 (by omega)).trans h.c2, (k 3 (by omega)).trans h.c3, (k 4 (by omega)).trans h.c4, World.cell?_setCell_same _ _ _ h.c5, (k 6 (by omega)).trans h.c6,
    fun i => by rw [World.frozen?_setCell]; exact h.fz i, hg.turn (set_turn w p 5 _) fun k g e => by subst e; exact ap g, ap, h.pl.setCell _ _⟩
theorem Fl.words {b c : Nat} {g : Nat → Nat} (h : Fl w p pr acc fm ng (some (b, c)) n f ex) (r : Rw b 0 n w w') (hg : Wd w' b 0 n g) :
    Fl w' p pr acc fm ng (some (b, c)) n (fun j => if j < n then g j else f j) ex := by
  have hne : p ≠ b := fun e => h.ap ⟨c, by rw [e]⟩
  have t := r.turn
  have hl := h.lt
  have q : ∀ i, w'.cell? ⟨p, i, none⟩ = w.cell? ⟨p, i, none⟩ := fun i => t.cell (p := ⟨p, i, none⟩) hl hne
  obtain ⟨n1, n2, n3, n4, n5⟩ := h.nt
  refine ⟨(q 0).trans h.c0, (q 1).trans h.c1, (q 2).trans h.c2, (q 3).trans h.c3, (q 4).trans h.c4, (q 5).trans h.c5, (q 6).trans h.c6, fun i => (t.frozen (p := ⟨p, i, none⟩) hl hne).trans (h.fz i), ⟨n1, n2, n3, fun i hi => ?_, r.plain n5⟩, h.ap, r.plain h.pl⟩
  by_cases e : i < n
  · simp only [if_pos e]
    exact hg i e
  · simp only [if_neg e]
    exact n4.rw r hi fun _ => by omega
structure Fv (w : World) (p : Nat) (z : Int) (x : Int) (b c n : Nat) (g : Nat → Nat) : Prop where
  fl : Fl w p (max (bl z.natAbs) 64) 0 1 (decide (z < 0)) (some (b, c)) n g ((bl z.natAbs : Int) + x)
  fits : Fits (max (bl z.natAbs) 64) n (vl g n)
  val : vl g n = z.natAbs * 2 ^ (64 * n - bl z.natAbs)
  n1 : 1 ≤ n
  lo : bl z.natAbs ≤ 64 * n
  hi : 64 * n < bl z.natAbs + 64
  top : 9223372036854775808 ≤ g (n - 1)
theorem fits_of {L n V : Nat} (_h1 : 1 ≤ n) (h2 : L ≤ 64 * n) (h3 : 64 * n < L + 64) (V' : Nat) (h : V = V' * 2 ^ (64 * n - L)) : Fits (max L 64) n V := by
  by_cases g : 64 * n ≤ max L 64
  · exact .inl g
  · refine .inr ⟨64 * n - max L 64, by omega, by omega, by omega, ?_⟩
    rw [h, show max L 64 = L by omega]
    exact Nat.mul_mod_left _ _
theorem top_of {g : Nat → Nat} {n : Nat} (hn : 1 ≤ n) (hg : ∀ i, i < n → g i < 18446744073709551616) (h : 2 ^ (64 * n - 1) ≤ vl g n) : 9223372036854775808 ≤ g (n - 1) := by
  obtain ⟨k, rfl⟩ : ∃ k, n = k + 1 := ⟨n - 1, by omega⟩
  rw [Nat.add_sub_cancel]
  have hl := vl_lt (f := g) (n := k) fun i hi => hg i (by omega)
  rw [vl_succ, pow64] at h
  rw [pow64] at hl
  rcases Nat.lt_or_ge (g k) 9223372036854775808 with q | q
  · have h1 : (g k + 1) * 2 ^ (64 * k) ≤ 9223372036854775808 * 2 ^ (64 * k) := Nat.mul_le_mul_right _ q
    rw [Nat.add_mul, Nat.one_mul, ← pw63, ← Nat.pow_add, show 63 + 64 * k = 64 * (k + 1) - 1 by omega] at h1
    omega
  · exact q
theorem Fv.of {z x : Int} {b c n : Nat} {g : Nat → Nat} (h : Fl w p (max (bl z.natAbs) 64) 0 1 (decide (z < 0)) (some (b, c)) n g ((bl z.natAbs : Int) + x)) (hz : z ≠ 0) (val : vl g n = z.natAbs * 2 ^ (64 * n - bl z.natAbs)) (n1 : 1 ≤ n) (lo : bl z.natAbs ≤ 64 * n) (hi : 64 * n < bl z.natAbs + 64) : Fv w p z x b c n g := by
  refine ⟨h, fits_of n1 lo hi _ val, val, n1, lo, hi, top_of n1 h.nt.bd ?_⟩
  have hs := bl_spec (x := z.natAbs) (by omega)
  rw [val]
  refine Nat.le_trans ?_ (Nat.mul_le_mul_right _ hs.2.1)
  rw [← Nat.pow_add]
  exact Nat.pow_le_pow_right (by omega) (by omega)
def SIRes (w : World) (p : Nat) (z : Int) (en : Ending) (w' : World) : Prop := en = .returned (.pointer (some ⟨p, 0, none⟩)) ∧ (∃ b c n g, Fv w' p z 0 b c n g ∧ w.heap.size ≤ b) ∧ Turn (fun k => k = p) w w'
theorem set_new {W wa : World} {o : Option (Nat × Nat)} {n L : Nat} {g : Nat → Nat} {x : Int} (h1 : Nt wa o n g) (h2 : vl g n = x.natAbs) (h3 : Nrm g n) (h4 : Own W none o) (h0 : x ≠ 0) (hL : bl x.natAbs = L) :
    ∃ b c, o = some (b, c) ∧ W.heap.size ≤ b ∧ 1 ≤ n ∧ L ≤ 64 * n ∧ 64 * n < L + 64 ∧ g (n - 1) ≠ 0 := by
  have hm0 : n ≠ 0 := fun e => by subst e; have : vl g 0 = 0 := rfl; omega
  obtain ⟨k, rfl⟩ : ∃ k, n = k + 1 := ⟨n - 1, by omega⟩
  have htop : g k ≠ 0 := by have := h3.resolve_left (by omega); simpa using this
  have hbv := bl_vl (f := g) (k := k) h1.bd htop
  rw [h2, hL] at hbv
  have hbk := (bl_spec htop).2.2
  have hbk2 := bl_le (x := g k) (k := 64) (h1.bd k (by omega))
  rcases o with _ | ⟨b, c⟩
  · exact absurd h1 (by show ¬ (k + 1 = 0); omega)
  · refine ⟨b, c, rfl, ?_, by omega, by omega, by omega, htop⟩
    rcases h4 b c rfl with g' | g'
    · obtain ⟨_, e⟩ := g'; cases e
    · exact g'
set_option maxRecDepth 100000 in
set_option maxHeartbeats 2000000 in
theorem SetInt_some (xp : Nat) (xo : Option (Nat × Nat)) (x : Int) (w : World) (h : Fl w p 0 0 0 false none 0 f 0) (hx : It w xp xo x) (hpx : ¬ IB xp xo p) (h0 : x ≠ 0) (hb : bl x.natAbs ≤ 100000) :
    Calls Tryz.prog 107 #[.pointer (some ⟨p, 0, none⟩), .pointer (some ⟨xp, 0, none⟩)] w (SIRes w p x) := by
  have hBL := BitLen_any xp xo x w hx (by omega)
  obtain ⟨m, fx, hx1, hx2, hx3, cx1⟩ := hx.wd
  have hm0 : m ≠ 0 := fun e => by subst e; have : vl fx 0 = 0 := rfl; omega
  obtain ⟨k, rfl⟩ : ∃ k, m = k + 1 := ⟨m - 1, by omega⟩
  have htop : fx k ≠ 0 := by have := hx2.resolve_left (by omega); simpa using this
  have hbv := bl_vl (f := fx) (k := k) hx1.bd htop
  rw [hx3] at hbv
  have hbk := (bl_spec htop).2.2
  have hbk2 := bl_le (x := fx k) (k := 64) (hx1.bd k (by omega))
  obtain ⟨xb, xc, rfl⟩ : ∃ xb xc, xo = some (xb, xc) := by
    rcases xo with _ | ⟨b, c⟩
    · exact absurd hx1 (by show ¬ (k + 1 = 0); omega)
    · exact ⟨b, c, rfl⟩
  generalize hL : bl x.natAbs = L at *
  obtain ⟨P, hP⟩ : ∃ P, P = max L 64 := ⟨_, rfl⟩
  have h1 := ((h.setPrec P).setAcc 0).setNeg (decide (x < 0))
  have t1 : Turn (fun k => k = p) w (((w.setCell ⟨p, 0, none⟩ (.int .u32 (P : Nat))).setCell ⟨p, 2, none⟩ (.int .i8 0)).setCell ⟨p, 4, none⟩ (.bool (decide (x < 0)))) := ((set_turn w p 0 _).trans' (set_turn _ p 2 _)).trans' (set_turn _ p 4 _)
  have ht1 : ∀ k, IB xp (some (xb, xc)) k → ¬ (k = p) := fun k g e => hpx (e ▸ g)
  have hx' := hx.turn t1 ht1
  have hxn := hx1.turn t1 fun k g => ht1 k (.inr g)
  have cx0 := hx.c0
  have cx1' := (t1.cell (p := ⟨xp, 1, none⟩) (hx.lt (.inl rfl)) (ht1 xp (.inl rfl))).trans cx1
  have hS := set_any none (some (xb, xc)) 0 (k + 1) f fx (((w.setCell ⟨p, 0, none⟩ (.int .u32 (P : Nat))).setCell ⟨p, 2, none⟩ (.int .i8 0)).setCell ⟨p, 4, none⟩ (.bool (decide (x < 0)))).drew rfl ⟨hxn.1, hxn.2.1, hxn.2.2.1, hxn.2.2.2.1, hxn.2.2.2.2⟩ (by omega) hx2
  have h1d := h1.still ((Turn.refl (fun _ => False) _).drew)
  have hne : p ≠ xp := fun e => hpx (.inl e)
  simp only [nv] at hS cx1'
  clear cx1
  generalize hsg : decide (x < 0) = sg at *
  obtain ⟨c0, c1, c2, c3, c4, c5, c6, fz, nt, ap, -⟩ := h
  have f0 := fz 0
  have f2 := fz 2
  have f4 := fz 4
  simp only [nv] at c5
  obtain ⟨i0, i1, i2, i3, i4, i5, i6, iz, -, -, -⟩ := h1
  simp only [nv] at i5
  have hmax : max (L : Int) 64 = (P : Int) := by omega
  have hPl : P ≤ 100000 := by omega
  replace hP := Lib.hid hP
  replace hbv := Lib.hid hbv
  replace hL := Lib.hid hL
  have hk0 : ((k : Int) + 1 == 0) = false := beq0_false (by omega)
  have hwrap : IntKind.u32.wrap (L : Int) = (L : Int) := by rw [IntKind.wrap_u32]; omega
  replace h1d := Lib.hid h1d
  replace t1 := Lib.hid t1
  replace hsg := Lib.hid hsg
  replace hx3 := Lib.hid hx3
  clear hx' hxn hx hx1 hx2 fz nt ap htop iz
  go_enter Tryz.func107, Tryz.ntmps107
  go_wp2_with (go_at_call 131; ((with_reducible refine hBL.mono ?_)); rintro e w' ⟨rfl, rfl⟩)
  go_region_law ((go_simp; go_at_call 142; ((with_reducible refine hS.mono ?_)); rintro e wa ⟨o, n, g, rfl, hr1, hr2, hr3, hr4, hr5⟩
                  rw [hx3.out] at hr2
                  obtain ⟨b, c, rfl, hbW, hn1, hn2, hn3, hgt⟩ := set_new hr1 hr2 hr3 hr4 h0 hL.out
                  have t5 : Turn (fun _ => False) _ wa := hr5.mono fun _ _ g => by obtain ⟨_, e⟩ := g; cases e
                  have hbp : b ≠ p := fun e => by have := h1d.out.lt; omega
                  have e1 := h1d.out.still t5
                  have e5 := e1.c5
                  have ez := e1.fz 5
                  simp only [nv] at e5 ⊢
                  have hfl := e1.mant hr1 hbp
                  have hF := fnorm_any b c n g _ (hfl.nt.2.2.2.1.mono hfl.nt.1) hn1 (by omega) hgt
                  have v5 := hfl.c5
                  simp only [nv] at v5
                  have hbW2 : w.heap.size ≤ b := Nat.le_trans t1.out.size hbW
                  have t6 := (t1.out.drew.trans' (t5.mono (S' := fun k => k = p) fun _ _ g => g.elim)).trans' (set_turn wa p 5 (.slice (some ⟨b, 0, none⟩) n c))
                  replace hfl := Lib.hid hfl
                  replace t6 := Lib.hid t6
                  replace hr2 := Lib.hid hr2
                  clear hr1 hr3 hr4 hr5 t5 e1 hgt hbp))
  all_goals go_wp2_with (first
    | (go_at_call 143; ((with_reducible refine hF.mono ?_)); rintro en w6 ⟨⟨s, rfl⟩, ⟨g2, q1, q2⟩, q3⟩
       rw [hr2.out, hL.out] at q2
       have hfl2 := hfl.out.words q3 q1
       have hv2 : vl (fun j => if j < n then g2 j else g j) n = x.natAbs * 2 ^ (64 * n - L) := by rw [← q2]; exact vl_congr fun i hi => by simp only [if_pos hi]
       have t7 := t6.out.trans (q3.turn.mono (S' := fun k => k = b) fun _ _ e => e) fun j hj e => by omega
       have hE := setExp_any b c (L : Int) w6 hfl2 (by omega) (by rw [hv2, hP.out]; exact fits_of hn1 hn2 hn3 _ rfl) (by omega)
       replace hv2 := Lib.hid hv2
       replace t7 := Lib.hid t7
       clear q1 q2 q3 hfl2)
    | (go_at_call 144; ((with_reducible refine hE.mono ?_)); rintro en w7 ⟨rfl, f', r1, r2, r3⟩
       have t8 : Turn (fun k => k = p) w w7 := t7.out.trans r3 fun j hj e => by
         rcases e with e | ⟨c', e⟩
         · exact e
         · injection e with e; injection e with e1 e2; omega
       have hfin : SIRes w p x (.returned (.pointer (some ⟨p, 0, none⟩))) w7 := by
         refine ⟨rfl, ⟨b, c, n, f', ?_, hbW2⟩, t8⟩
         rw [← hsg.out, hP.out, ← hL.out] at r1
         exact Fv.of (by rw [Int.add_zero]; exact r1) h0 (by rw [r2, hv2.out, hL.out]) hn1 (by rw [hL.out]; exact hn2) (by rw [hL.out]; exact hn3)
       replace hfin := Lib.hid hfin
       clear r1 r2 r3 t8))
  all_goals (go_ret; exact hfin.out)
end
section
open Go.RowKit
variable {w w' : World} {p pr : Nat} {acc : Int} {fm : Nat} {ng : Bool} {n : Nat} {f : Nat → Nat} {ex : Int}
def FZ (w : World) (p : Nat) : Prop := ∃ f, Fl w p 64 0 0 false none 0 f 0
set_option maxRecDepth 100000 in
set_option maxHeartbeats 1000000 in
theorem SetInt_zero (xp : Nat) (xo : Option (Nat × Nat)) (w : World) (h : Fl w p 0 0 0 false none 0 f 0) (hx : It w xp xo 0) (hpx : ¬ IB xp xo p) :
    Calls Tryz.prog 107 #[.pointer (some ⟨p, 0, none⟩), .pointer (some ⟨xp, 0, none⟩)] w fun e w' => e = .returned (.pointer (some ⟨p, 0, none⟩)) ∧ FZ w' p ∧ Turn (fun k => k = p) w w' := by
  have hBL := BitLen_any xp xo 0 w hx (by decide)
  have hBL : Calls Tryz.prog 131 #[.pointer (some ⟨xp, 0, none⟩)] w fun e w' => e = .returned (.int .i64 0) ∧ w = w' := hBL
  obtain ⟨m, fx, hx1, hx2, hx3, cx1⟩ := hx.wd
  have hm0 : m = 0 := by
    rcases Nat.eq_zero_or_pos m with g | g
    · exact g
    · have := hx2.le (by omega)
      have h3 : vl fx m = 0 := hx3
      have := Nat.pow_pos (n := m - 1) (show 0 < 18446744073709551616 by omega)
      omega
  subst hm0
  have h1 := ((h.setPrec 64).setAcc 0).setNeg false
  have t1 : Turn (fun k => k = p) w (((w.setCell ⟨p, 0, none⟩ (.int .u32 (64 : Nat))).setCell ⟨p, 2, none⟩ (.int .i8 0)).setCell ⟨p, 4, none⟩ (.bool false)) := ((set_turn w p 0 _).trans' (set_turn _ p 2 _)).trans' (set_turn _ p 4 _)
  have ht1 : ∀ k, IB xp xo k → ¬ (k = p) := fun k g e => hpx (e ▸ g)
  have hxn := (t1.cell (p := ⟨xp, 1, none⟩) (hx.lt (.inl rfl)) (ht1 xp (.inl rfl))).trans cx1
  have hne : p ≠ xp := fun e => hpx (.inl e)
  have cx0 := hx.c0
  obtain ⟨sa, sc, env⟩ : ∃ sa sc, nv xo 0 = .slice sa 0 sc := by rcases xo with _ | ⟨b, c⟩ <;> exact ⟨_, _, rfl⟩
  rw [env] at hxn cx1
  have hne2 := hne.symm
  have f0 := h.fz 0
  have f2 := h.fz 2
  have f4 := h.fz 4
  have f3 := h.fz 3
  obtain ⟨c0, c1, c2, c3, c4, c5, c6, fz, nt, ap, -⟩ := h
  obtain ⟨i0, i1, i2, i3, i4, i5, i6, -, -, -, -⟩ := id h1
  have h4 := h1.setForm 0
  have hfin := Lib.hid (show FZ _ p ∧ Turn (fun k => k = p) w _ from ⟨⟨_, h4⟩, t1.trans' (set_turn _ p 3 (.int .u8 ((0 : Nat) : Int)))⟩)
  have hmax : max (0 : Int) 64 = 64 := by decide
  clear hx hx1 hx2 hx3 env ht1 nt ap fz h1 h4 t1 hxn
  go_enter Tryz.func107, Tryz.ntmps107
  go_wp2_with (go_at_call 131; ((with_reducible refine hBL.mono ?_)); rintro e w' ⟨rfl, rfl⟩)
  go_ret
  exact ⟨rfl, hfin.out⟩
set_option maxRecDepth 100000 in
theorem Copy_same (p : Nat) (w : World) :
    Calls Tryz.prog 146 #[.pointer (some ⟨p, 0, none⟩), .pointer (some ⟨p, 0, none⟩)] w fun e w' => e = .returned (.pointer (some ⟨p, 0, none⟩)) ∧ w = w' := by
  have hneq := ptr_neq_same 152 159 (by kernel_rfl) (by kernel_rfl) ⟨p, 0, none⟩ w
  go_enter Tryz.func146, Tryz.ntmps146
  go_wp2_with fail
  go_ret
  exact ⟨rfl, rfl⟩
set_option maxRecDepth 100000 in
theorem SetMantExp_zero (p : Nat) (x : Int) (w : World) (h : FZ w p) :
    Calls Tryz.prog 108 #[.pointer (some ⟨p, 0, none⟩), .pointer (some ⟨p, 0, none⟩), .int .i64 x] w fun e w' => e = .returned (.pointer (some ⟨p, 0, none⟩)) ∧ w = w' := by
  obtain ⟨f, c0, c1, c2, c3, c4, c5, c6, fz, nt, ap, -⟩ := h
  have hC := Copy_same p w
  clear nt ap
  go_enter Tryz.func108, Tryz.ntmps108
  go_wp2_with (go_at_call 146; ((with_reducible refine hC.mono ?_)); rintro e w' ⟨rfl, rfl⟩)
  go_ret
  exact ⟨rfl, rfl⟩
def SMRes (w : World) (p : Nat) (z x : Int) (b c n : Nat) (en : Ending) (w' : World) : Prop := en = .returned (.pointer (some ⟨p, 0, none⟩)) ∧ (∃ g, Fv w' p z x b c n g) ∧ Turn (fun k => k = p ∨ k = b) w w'
set_option maxRecDepth 100000 in
set_option maxHeartbeats 1000000 in
theorem SetMantExp_some {z : Int} {b c n : Nat} {g : Nat → Nat} (x : Int) (w : World) (h : Fv w p z 0 b c n g) (hz : z ≠ 0) (hb : bl z.natAbs ≤ 100000) (hx : -10000000 ≤ x ∧ x ≤ 10000000) :
    Calls Tryz.prog 108 #[.pointer (some ⟨p, 0, none⟩), .pointer (some ⟨p, 0, none⟩), .int .i64 x] w (SMRes w p z x b c n) := by
  have hC := Copy_same p w
  have hE := setExp_any b c ((bl z.natAbs : Int) + x) w h.fl (by have := h.hi; omega) h.fits (by omega)
  have hfin := Lib.hid fun w' (g : FRes w p (max (bl z.natAbs) 64) 0 (decide (z < 0)) (some (b, c)) n (fun g' => vl g' n = vl g n) ((bl z.natAbs : Int) + x) (.returned (.tuple #[])) w') => (show SMRes w p z x b c n (.returned (.pointer (some ⟨p, 0, none⟩))) w' by
    obtain ⟨-, f', g2, g3, g4⟩ := g
    exact ⟨rfl, ⟨f', Fv.of g2 hz (g3.trans h.val) h.n1 h.lo h.hi⟩, g4.mono fun k _ e => by
      rcases e with e | ⟨c', e⟩
      · exact .inl e
      · injection e with e; injection e with e1 e2; exact .inr e1.symm⟩)
  obtain ⟨c0, c1, c2, c3, c4, c5, c6, fz, nt, ap, -⟩ := h.fl
  generalize bl z.natAbs = L at *
  have hw : IntKind.i64.wrap ((L : Int) + x) = (L : Int) + x := IntWalk.i64_in _ (by omega)
  rw [Int.add_zero] at c6
  clear nt ap h fz c0 c1 c2 c4 c5
  go_enter Tryz.func108, Tryz.ntmps108
  go_wp2_with (first
    | (go_at_call 146; ((with_reducible refine hC.mono ?_)); rintro e w' ⟨rfl, rfl⟩)
    | (go_at_call 144; ((with_reducible refine hE.mono ?_)); rintro e w' ⟨rfl, g⟩))
  go_ret
  exact hfin.out _ ⟨rfl, g⟩
end
section
open Go.RowKit
theorem vl_top {g : Nat → Nat} {n : Nat} (n1 : 1 ≤ n) (ht : 9223372036854775808 ≤ g (n - 1)) : 2 ^ (64 * n - 1) ≤ vl g n := by
  obtain ⟨k, rfl⟩ : ∃ k, n = k + 1 := ⟨n - 1, by omega⟩
  rw [Nat.add_sub_cancel] at ht
  rw [vl_succ, pow64]
  have h1 : 9223372036854775808 * 2 ^ (64 * k) ≤ g k * 2 ^ (64 * k) := Nat.mul_le_mul_right _ ht
  rw [← pw63, ← Nat.pow_add, show 63 + 64 * k = 64 * (k + 1) - 1 by omega] at h1
  omega
theorem copy_top {W wa : World} {o : Option (Nat × Nat)} {n n' : Nat} {g g' : Nat → Nat} (h1 : Nt wa o n' g') (h2 : vl g' n' = vl g n) (h3 : Nrm g' n') (h4 : Own W none o) (hg : ∀ i, i < n → g i < 18446744073709551616) (n1 : 1 ≤ n) (ht : 9223372036854775808 ≤ g (n - 1)) :
    n' = n ∧ (∃ b c, o = some (b, c) ∧ W.heap.size ≤ b) ∧ 9223372036854775808 ≤ g' (n' - 1) := by
  have a1 := vl_top n1 ht
  have a2 := vl_lt (f := g) (n := n) hg
  have b2 := vl_lt (f := g') (n := n') h1.bd
  have p := Nat.two_pow_pos (64 * n - 1)
  have hn0 : n' ≠ 0 := fun e => by
    subst e
    have : vl g' 0 = 0 := rfl
    omega
  have b1 := h3.le hn0
  rw [h2] at b1 b2
  rw [pow64] at a2 b1 b2
  have c1 := (Nat.pow_lt_pow_iff_right (a := 2) (by omega)).1 (Nat.lt_of_le_of_lt b1 a2)
  have c2 := (Nat.pow_lt_pow_iff_right (a := 2) (by omega)).1 (Nat.lt_of_le_of_lt a1 b2)
  have e : n' = n := by omega
  subst e
  refine ⟨rfl, ?_, top_of n1 h1.bd (by rw [h2]; exact a1)⟩
  rcases o with _ | ⟨b, c⟩
  · exact absurd h1 (by show ¬ n' = 0; omega)
  · rcases h4 b c rfl with k | k
    · obtain ⟨_, e⟩ := k; cases e
    · exact ⟨b, c, rfl, k⟩
def StRes (w : World) (rp pr M K s : Nat) (ng : Bool) (ex : Int) (en : Ending) (w' : World) : Prop :=
  en = .returned (.pointer (some ⟨rp, 0, none⟩)) ∧ ∃ rb rc acc' ex' g, Fl w' rp pr acc' 1 ng (some (rb, rc)) 1 g ex' ∧ Cut M K pr s ng ex acc' ex' (g 0) ∧ Turn (fun k => k = rp) w w'
set_option maxRecDepth 100000 in
set_option maxHeartbeats 4000000 in
theorem Set_any {p rp pr P b c n : Nat} {acc : Int} {ng : Bool} {g f : Nat → Nat} {ex : Int} (w : World) (hr : Fl w rp pr 0 0 false none 0 f 0) (h : Fl w p P acc 1 ng (some (b, c)) n g ex) (hp : p ≠ rp) (hb : b ≠ rp) (n1 : 1 ≤ n) (hn : n ≤ 10000)
    (ht : 9223372036854775808 ≤ g (n - 1)) (p1 : 1 ≤ pr) (p2 : pr ≤ 53) (hP : 64 ≤ P) (he : -100000 ≤ ex ∧ ex ≤ 100000) :
    Calls Tryz.prog 148 #[.pointer (some ⟨rp, 0, none⟩), .pointer (some ⟨p, 0, none⟩)] w (StRes w rp pr (vl g n) (64 * n - pr) (64 - pr) ng ex) := by
  have q1 := hr.setAcc 0
  have q2 : Fl ((w.setCell ⟨rp, 2, none⟩ (.int .i8 0)).setCell ⟨rp, 3, none⟩ (.int .u8 1)) rp pr 0 1 false none 0 f 0 := q1.setForm 1
  have q3 := q2.setNeg ng
  have h1 := q3.setExp ex
  have t1 : Turn (fun k => k = rp) w ((((w.setCell ⟨rp, 2, none⟩ (.int .i8 0)).setCell ⟨rp, 3, none⟩ (.int .u8 1)).setCell ⟨rp, 4, none⟩ (.bool ng)).setCell ⟨rp, 6, none⟩ (.int .i32 ex)) := (((set_turn w rp 2 _).trans' (set_turn _ rp 3 _)).trans' (set_turn _ rp 4 _)).trans' (set_turn _ rp 6 _)
  have hib : ∀ k, InB (some (b, c)) k → ¬ k = rp := fun k ⟨c', e⟩ => by injection e with e; injection e with e1 e2; omega
  have x1 := h.turn t1 hp hib
  have hneq := fun w' (t : Turn (fun k => k = rp) w w') (hpl : Plain w' rp) => ptr_neq_other 152 159 (by kernel_rfl) (by kernel_rfl) (a := ⟨rp, 0, none⟩) (b := ⟨p, 0, none⟩) w' (show rp ≠ p from fun e => hp e.symm) hpl (h.pl.turn t hp)
  have hneq := hneq (w.setCell ⟨rp, 2, none⟩ (.int .i8 0)) (set_turn w rp 2 _) (hr.setAcc 0).pl
  have x1n := x1.nt
  have hS := set_any none (some (b, c)) 0 n f g ((((w.setCell ⟨rp, 2, none⟩ (.int .i8 0)).setCell ⟨rp, 3, none⟩ (.int .u8 1)).setCell ⟨rp, 4, none⟩ (.bool ng)).setCell ⟨rp, 6, none⟩ (.int .i32 ex)).drew rfl ⟨x1n.1, x1n.2.1, x1n.2.2.1, x1n.2.2.2.1, x1n.2.2.2.2⟩ (by omega) (.inr (by omega))
  have h1d := h1.still ((Turn.refl (fun _ => False) _).drew)
  have x1d := x1.still ((Turn.refl (fun _ => False) _).drew)
  have t1d := t1.drew
  have a3 := (h.turn (set_turn w rp 2 (.int .i8 0)) hp hib).c3
  have y1 := h.turn ((set_turn w rp 2 (.int .i8 0)).trans' (set_turn _ rp 3 (.int .u8 1))) hp hib
  have y2 := h.turn (((set_turn w rp 2 (.int .i8 0)).trans' (set_turn _ rp 3 (.int .u8 1))).trans' (set_turn _ rp 4 (.bool ng))) hp hib
  have a4 := y1.c4
  have a6 := y2.c6
  have b3 := y2.c3
  have d2 := hr.c2
  have e2 := hr.fz 2
  have d3 := q1.c3
  have e3 := q1.fz 3
  have d4 := q2.c4
  have e4 := q2.fz 4
  have d6 := q3.c6
  have e6 := q3.fz 6
  have d5 := h1.c5
  have e5 := h1.fz 5
  have a5 := x1.c5
  have hbd := h.nt.bd
  have hne := fun e => hp (Eq.symm e)
  simp only [nv] at hS d5 a5
  replace h1d := Lib.hid h1d
  replace x1d := Lib.hid x1d
  replace t1d := Lib.hid t1d
  replace ht := Lib.hid ht
  replace hbd := Lib.hid hbd
  have hpr : (pr : Int) < (P : Int) := by omega
  have hpr0 : ((pr : Int) == 0) = false := beq0_false (by omega)
  replace hib := Lib.hid hib
  clear h1 x1 x1n t1 q1 q2 q3 y1 y2 h hr
  go_enter Tryz.func148, Tryz.ntmps148
  go_wp2_with fail
  go_region_law ((go_simp; go_at_call 142; ((with_reducible refine hS.mono ?_)); rintro e wa ⟨o, n', g', rfl, hr1, hr2, hr3, hr4, hr5⟩
                  obtain ⟨rfl, ⟨rb, rc, rfl, hbW⟩, hgt⟩ := copy_top hr1 hr2 hr3 hr4 hbd.out n1 ht.out
                  have t5 : Turn (fun _ => False) _ wa := hr5.mono fun _ _ g => by obtain ⟨_, e⟩ := g; cases e
                  have hbp : rb ≠ rp := fun e => by have := h1d.out.lt; omega
                  have z1 := h1d.out.still t5
                  have z5 := z1.c5
                  have zz := z1.fz 5
                  simp only [nv] at z5 ⊢
                  have hfl := z1.mant hr1 hbp
                  have t6 := (t1d.out.trans' (t5.mono (S' := fun k => k = rp) fun _ _ g => g.elim)).trans' (set_turn wa rp 5 (.slice (some ⟨rb, 0, none⟩) n' rc))
                  have x6 := (x1d.out.still t5).turn (set_turn wa rp 5 (.slice (some ⟨rb, 0, none⟩) n' rc)) hp hib.out
                  have x60 := x6.c0
                  have h60 := hfl.c0
                  have hR := round_cut rb rc (wa.setCell ⟨rp, 5, none⟩ (.slice (some ⟨rb, 0, none⟩) n' rc)).drew (hfl.still ((Turn.refl (fun _ => False) _).drew)) n1 hn hgt p1 p2 he
                  rw [hr2] at hR
                  have hfin := Lib.hid fun en w' (k : CRes (wa.setCell ⟨rp, 5, none⟩ (.slice (some ⟨rb, 0, none⟩) n' rc)).drew rp pr ng rb rc (vl g n') (64 * n' - pr) (64 - pr) ex en w') => (show StRes w rp pr (vl g n') (64 * n' - pr) (64 - pr) ng ex (.returned (.pointer (some ⟨rp, 0, none⟩))) w' by
                    obtain ⟨-, acc', ex', g2, k1, k2, k3⟩ := k
                    exact ⟨rfl, rb, rc, acc', ex', g2, k1, k2, t6.drew.trans k3 fun j hj e => by
                      have := t1d.out.size
                      omega⟩)
                  clear hr1 hr2 hr3 hr4 hr5 t5 z1 hgt hbp hfl t6 x6))
  all_goals go_wp2_with fail
  all_goals go_region
  all_goals go_wp2_with (go_at_call 175; ((with_reducible refine hR.mono ?_)); rintro en w7 k
                         have hend := Lib.hid (hfin.out _ _ k)
                         obtain ⟨rfl, -⟩ := k)
  all_goals (go_ret; exact hend.out)
end
end Go.Proofs.YtllapbkoildfiaaGreatFmt
