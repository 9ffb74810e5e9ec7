/- math/big: nat's bit, sticky, msb64; fnorm · math/big.Float: round where nothing is lost · math/big.Float: round to few bits: the plain part. -/
import Derived.Test.YtllapbkoildfiaaGreatFmtM17
import Derived.Test.YtllapbkoildfiaaGreatFmtM19
set_option linter.all false
namespace Go.Proofs.YtllapbkoildfiaaGreatFmt
section
open Go.RowKit
theorem pow64 (j : Nat) : (18446744073709551616 : Nat) ^ j = 2 ^ (64 * j) := by
  have e64 : (18446744073709551616 : Nat) = 2 ^ 64 := by decide
  rw [e64, ← Nat.pow_mul]
theorem vl_cut {x : Nat → Nat} {m j s : Nat} (hj : j < m) (hs : s ≤ 64) (hx : ∀ i, i < m → x i < 18446744073709551616) :
    vl x m % 2 ^ (64 * j + s) = vl x j + x j % 2 ^ s * 2 ^ (64 * j) ∧ vl x j + x j % 2 ^ s * 2 ^ (64 * j) < 2 ^ (64 * j + s) ∧ ∃ R, vl x m / 2 ^ (64 * j + s) = x j / 2 ^ s + 2 ^ (64 - s) * R := by
  obtain ⟨r, rfl⟩ : ∃ r, m = j + (1 + r) := ⟨m - j - 1, by omega⟩
  have hlow := vl_lt (f := x) (n := j) fun i hi => hx i (by omega)
  rw [pow64] at hlow
  rw [vl_add, vl_add, vl_one, Nat.add_zero, pow64, pow64]
  generalize vl (fun i => x (j + (1 + i))) r = R
  generalize vl x j = L at *
  have hmod := Nat.mod_lt (x j) (Nat.two_pow_pos s)
  have hdm := Nat.div_add_mod (x j) (2 ^ s)
  generalize x j = a at *
  have hlt : L + a % 2 ^ s * 2 ^ (64 * j) < 2 ^ (64 * j + s) := by
    rw [Nat.pow_add, Nat.mul_comm (2 ^ (64 * j)) (2 ^ s)]
    have : (a % 2 ^ s + 1) * 2 ^ (64 * j) ≤ 2 ^ s * 2 ^ (64 * j) := Nat.mul_le_mul_right _ hmod
    rw [Nat.add_mul, Nat.one_mul] at this
    omega
  have e : L + 2 ^ (64 * j) * (a + 2 ^ (64 * 1) * R) = (L + a % 2 ^ s * 2 ^ (64 * j)) + 2 ^ (64 * j + s) * (a / 2 ^ s + 2 ^ (64 - s) * R) := by
    have e1 : (2 : Nat) ^ (64 * j + s) * (2 ^ (64 - s) * R) = 2 ^ (64 * j) * (2 ^ (64 * 1) * R) := by
      rw [← Nat.mul_assoc, ← Nat.pow_add, ← Nat.mul_assoc, ← Nat.pow_add]
      congr 2; omega
    have e2 : 2 ^ (64 * j) * a = a % 2 ^ s * 2 ^ (64 * j) + 2 ^ (64 * j + s) * (a / 2 ^ s) := by
      conv => lhs; rw [← hdm]
      rw [Nat.mul_add, Nat.pow_add, Nat.mul_assoc, Nat.mul_comm (a % 2 ^ s), Nat.add_comm]
    rw [Nat.mul_add, Nat.mul_add, e1, e2]
    omega
  refine ⟨?_, hlt, R, ?_⟩
  · rw [e, Nat.add_mul_mod_self_left, Nat.mod_eq_of_lt hlt]
  · rw [e, Nat.add_mul_div_left _ _ (Nat.two_pow_pos _), Nat.div_eq_of_lt hlt, Nat.zero_add]
theorem vl_bit {x : Nat → Nat} {m i : Nat} (hi : i < 64 * m) (hx : ∀ i, i < m → x i < 18446744073709551616) : vl x m / 2 ^ i % 2 = x (i / 64) / 2 ^ (i % 64) % 2 := by
  obtain ⟨-, -, R, h⟩ := vl_cut (x := x) (m := m) (j := i / 64) (s := i % 64) (by omega) (by omega) hx
  rw [show 64 * (i / 64) + i % 64 = i by omega] at h
  rw [h]
  obtain ⟨d, hd⟩ : ∃ d, 64 - i % 64 = d + 1 := ⟨64 - i % 64 - 1, by omega⟩
  rw [hd, Nat.pow_succ, Nat.mul_comm (2 ^ d) 2, Nat.mul_assoc, Nat.add_mul_mod_self_left]
set_option maxRecDepth 100000 in
theorem bit_any (xb xc m i : Nat) (x : Nat → Nat) (w : World) (hx : Wd w xb 0 m x) (hi : i < 64 * m) (hm : m ≤ 100000) :
    Calls Tryz.prog 196 #[.slice (some ⟨xb, 0, none⟩) m xc, .int .u64 (i : Int)] w fun e w' => e = .returned (.int .u64 ((vl x m / 2 ^ i % 2 : Nat) : Int)) ∧ w = w' := by
  rw [vl_bit hi fun i hi => (hx i hi).2.2]
  have hj : i / 64 < m := by omega
  have hc := hx (i / 64) hj
  rw [Nat.zero_add] at hc
  have cx := hc.1
  have hlt := hc.2.2
  have h1 : (i : Int) / 64 = ((i / 64 : Nat) : Int) := by omega
  have h2 : (i : Int) % 64 = ((i % 64 : Nat) : Int) := by omega
  have h3 : i % 64 < 64 := by omega
  clear hc hx
  generalize i / 64 = j at *
  generalize i % 64 = s at *
  generalize x j = a at *
  have h4 : bits .and .u64 ((a : Int) / 2 ^ s) 1 = ((a / 2 ^ s % 2 : Nat) : Int) := by
    have e : (a : Int) / 2 ^ s = ((a / 2 ^ s : Nat) : Int) := by rw [Int.natCast_ediv, Int.natCast_pow]; rfl
    have := u64_and_nat (a / 2 ^ s) 1 (Nat.lt_of_le_of_lt (Nat.div_le_self _ _) hlt) (by omega)
    rw [Nat.and_one_is_mod] at this
    rw [e]
    exact this
  generalize a / 2 ^ s % 2 = q at *
  go_enter Tryz.func196, Tryz.ntmps196
  go_wp2_with fail
  go_ret
  exact ⟨rfl, rfl⟩
theorem vl_low {x : Nat → Nat} {m j s : Nat} (hj : j < m) (hs : s ≤ 64) (hx : ∀ i, i < m → x i < 18446744073709551616) : vl x m % 2 ^ (64 * j + s) = 0 ↔ (∀ k, k < j → x k = 0) ∧ x j % 2 ^ s = 0 := by
  rw [(vl_cut hj hs hx).1]
  have hp := Nat.two_pow_pos (64 * j)
  constructor
  · intro h
    have h1 : vl x j = 0 := by omega
    have h2 : x j % 2 ^ s * 2 ^ (64 * j) = 0 := by omega
    refine ⟨fun k hk => ?_, ?_⟩
    · obtain ⟨r, rfl⟩ : ∃ r, j = k + (1 + r) := ⟨j - k - 1, by omega⟩
      rw [vl_add, vl_add, vl_one, Nat.add_zero, pow64, pow64] at h1
      rcases Nat.eq_zero_or_pos (x k) with g | g
      · exact g
      · have := Nat.mul_pos (Nat.two_pow_pos (64 * k)) (Nat.add_pos_left g (2 ^ (64 * 1) * vl (fun i => x (k + (1 + i))) r))
        omega
    · rcases Nat.eq_zero_or_pos (x j % 2 ^ s) with g | g
      · exact g
      · have := Nat.mul_pos g hp; omega
  · rintro ⟨h1, h2⟩
    rw [h2, Nat.zero_mul, vl_congr (g := fun _ => 0) h1, vl_zeros]
def stk (r : Nat) : Nat := if r = 0 then 0 else 1
theorem stk_zero : stk 0 = 0 := rfl
theorem stk_pos {r : Nat} (h : r ≠ 0) : stk r = 1 := if_neg h
set_option maxRecDepth 100000 in
set_option maxHeartbeats 1000000 in
theorem sticky_any (xb xc m i : Nat) (x : Nat → Nat) (w : World) (hx : Wd w xb 0 m x) (hi : i < 64 * m) (hm : m ≤ 100000) (hmc : m ≤ xc) :
    Calls Tryz.prog 147 #[.slice (some ⟨xb, 0, none⟩) m xc, .int .u64 (i : Int)] w fun e w' => e = .returned (.int .u64 ((stk (vl x m % 2 ^ i) : Nat) : Int)) ∧ w = w' := by
  have hj : i / 64 < m := by omega
  have hl := vl_low (x := x) (m := m) (j := i / 64) (s := i % 64) hj (by omega) fun i hi => (hx i hi).2.2
  rw [show 64 * (i / 64) + i % 64 = i by omega] at hl
  have h1 : (i : Int) / 64 = ((i / 64 : Nat) : Int) := by omega
  have h2 : (i : Int) % 64 = ((i % 64 : Nat) : Int) := by omega
  have h3 : i % 64 < 64 := by omega
  generalize vl x m % 2 ^ i = r at *
  generalize i / 64 = j at *
  generalize i % 64 = s at *
  have hjm : ¬ m ≤ j := by omega
  have hjc : j ≤ xc := by omega
  replace hl := Lib.hid hl
  generalize hq : stk r = q at *
  replace hq := Lib.hid hq
  go_enter Tryz.func147, Tryz.ntmps147
  go_wp2_with fail
  go_loop [22] (fun vi => ∃ k : Nat, k ≤ j ∧ vi = .int .i64 (k : Nat) ∧ Hid (∀ k', k' < k → x k' = 0)) (fun vi => j - (intOf vi).toNat)
  case atStart => exact ⟨0, by omega, rfl, (show Hid _ from fun j h => absurd h (Nat.not_lt_zero _))⟩
  case round =>
    obtain ⟨k, hk, rfl, hz⟩ := hrel
    by_cases hkj : k < j
    · have hc := hx k (by omega)
      rw [Nat.zero_add] at hc
      have cx := hc.1
      have hlt := hc.2.2
      have hn1 : (0 : Int) ≤ (k : Int) := by omega
      have hn2 : (k : Int) < j := by omega
      clear hc
      by_cases h0 : x k = 0
      · have b0 : (((x k : Nat) : Int) != 0) = false := by rw [h0]; rfl
        have hz' : Hid (∀ k', k' < k + 1 → x k' = 0) := Lib.hid fun k' hk' => by
          rcases Nat.lt_or_ge k' k with g | g
          · exact hz.out k' g
          · obtain rfl : k' = k := by omega
            exact h0
        clear h0
        go_wp2_with fail
        all_goals go_round
        case rel => exact ⟨k + 1, by omega, by go_num, hz'⟩
        case measure => simp [intOf]; omega
      · have b0 : (((x k : Nat) : Int) != 0) = true := by rw [bne_iff_ne]; omega
        have hf : q = 1 := by rw [← hq.out]; exact stk_pos fun g => h0 ((hl.out.1 g).1 k hkj)
        subst hf
        clear h0
        go_wp2_with fail
        go_ret
        exact ⟨rfl, rfl⟩
    · obtain rfl : k = j := by omega
      have hc := hx k (by omega)
      rw [Nat.zero_add] at hc
      have cx := hc.1
      have hlt := hc.2.2
      clear hc
      have hs1 : IntKind.u64.wrap (64 - (s : Int)) = ((64 - s : Nat) : Int) := by rw [IntKind.wrap_u64]; omega
      have hs2 : (IntKind.u64.wrap ((x k : Int) * 2 ^ (64 - s)) != 0) = decide (x k % 2 ^ s ≠ 0) := by
        have e : (x k : Int) * 2 ^ (64 - s) = ((x k * 2 ^ (64 - s) : Nat) : Int) := by rw [Int.natCast_mul, Int.natCast_pow] <;> rfl
        have e2 : x k * 2 ^ (64 - s) % 18446744073709551616 = x k % 2 ^ s * 2 ^ (64 - s) := by
          have e3 : (18446744073709551616 : Nat) = 2 ^ s * 2 ^ (64 - s) := by rw [← Nat.pow_add, show s + (64 - s) = 64 by omega] <;> decide
          rw [e3, Nat.mul_mod_mul_right]
        rw [e, IntKind.wrap_u64]
        have hp := Nat.two_pow_pos (64 - s)
        by_cases g : x k % 2 ^ s = 0
        · rw [g, Nat.zero_mul] at e2
          rw [decide_eq_false (fun h => h g), bne_eq_false_iff_eq]
          omega
        · have := Nat.mul_pos (Nat.pos_of_ne_zero g) hp
          rw [decide_eq_true g, bne_iff_ne]
          omega
      have hs3 : (64 : Int) - s = ((64 - s : Nat) : Int) := by omega
      have hl2 : r = 0 ↔ x k % 2 ^ s = 0 := ⟨fun h => (hl.out.1 h).2, fun h => hl.out.2 ⟨hz.out, h⟩⟩
      by_cases g : x k % 2 ^ s = 0
      · rw [decide_eq_false (fun h => h g)] at hs2
        have hf : q = 0 := by rw [← hq.out, hl2.2 g, stk_zero]
        subst hf
        clear hl hl2 hz g
        generalize x k = a at *
        go_wp2_with fail
        go_ret
        exact ⟨rfl, rfl⟩
      · rw [decide_eq_true g] at hs2
        have hf : q = 1 := by rw [← hq.out, stk_pos fun h => g (hl2.1 h)]
        subst hf
        clear hl hl2 hz g
        generalize x k = a at *
        go_wp2_with fail
        go_ret
        exact ⟨rfl, rfl⟩
set_option maxRecDepth 100000 in
theorem msb64_any (xb xc m : Nat) (x : Nat → Nat) (w : World) (hx : Wd w xb 0 m x) (hm1 : 1 ≤ m) (hm : m ≤ 100000) :
    Calls Tryz.prog 149 #[.slice (some ⟨xb, 0, none⟩) m xc] w fun e w' => e = .returned (.int .u64 (x (m - 1) : Nat)) ∧ w = w' := by
  obtain ⟨k, rfl⟩ : ∃ k, m = k + 1 := ⟨m - 1, by omega⟩
  have hc := hx k (by omega)
  rw [Nat.zero_add] at hc
  have cx := hc.1
  have h1 : ((k + 1 : Nat) : Int) - 1 = k := by omega
  rw [Nat.add_sub_cancel]
  generalize x k = a at *
  clear hc hx
  go_enter Tryz.func149, Tryz.ntmps149
  go_wp2_with fail
  go_ret
  exact ⟨rfl, rfl⟩
structure Fn (w : World) (b m : Nat) (x : Nat → Nat) (e : Ending) (w' : World) : Prop where
  en : ∃ s : Int, e = .returned (.int .i64 s)
  ok : ∃ g, Wd w' b 0 m g ∧ vl g m = vl x m * 2 ^ (64 * m - bl (vl x m))
  rw : Rw b 0 m w w'
set_option maxRecDepth 100000 in
theorem fnorm_any (b c m : Nat) (x : Nat → Nat) (w : World) (hx : Wd w b 0 m x) (hm1 : 1 ≤ m) (hm : m ≤ 100000) (hn : x (m - 1) ≠ 0) :
    Calls Tryz.prog 143 #[.slice (some ⟨b, 0, none⟩) m c] w (Fn w b m x) := by
  obtain ⟨k, rfl⟩ : ∃ k, m = k + 1 := ⟨m - 1, by omega⟩
  rw [Nat.add_sub_cancel] at hn
  have hc := hx k (by omega)
  rw [Nat.zero_add] at hc
  have cx := hc.1
  have hlt := hc.2.2
  have hbl := bl_vl (f := x) (k := k) (fun i hi => (hx i hi).2.2) hn
  have h1 : ((k + 1 : Nat) : Int) - 1 = k := by omega
  have hN := nlz_any (x k) hlt w
  rw [bl_lib hlt] at hN
  have hle := bl_le (x := x k) (k := 64) hlt
  obtain ⟨s, hs⟩ : ∃ s, 64 - bl (x k) = s := ⟨_, rfl⟩
  rw [hs] at hN
  have hsm : 64 * (k + 1) - bl (vl x (k + 1)) = s := by rw [hbl]; omega
  by_cases h0 : s = 0
  · have hfin : Fn w b (k + 1) x (.returned (.int .i64 0)) w := ⟨⟨0, rfl⟩, ⟨x, hx, by rw [hsm, h0, Nat.pow_zero, Nat.mul_one]⟩, Rw.refl _ _ _ _⟩
    subst h0
    replace hfin := Lib.hid hfin
    clear hx hc hbl hlt hle hs hsm hn
    generalize x k = a at *
    go_enter Tryz.func143, Tryz.ntmps143
    go_wp2_with (go_at_call 172; refine hN.mono ?_; rintro e w' ⟨rfl, rfl⟩)
    go_ret
    exact hfin.out
  · have hpos : 1 ≤ bl (x k) := by
      rcases Nat.eq_zero_or_pos (bl (x k)) with g | g
      · exact absurd (Nat.eq_zero_of_not_pos fun h => absurd (bl_spec (Nat.pos_iff_ne_zero.1 h)).2.2 (by omega)) hn
      · exact g
    have hL := lsh_call b 0 c b c (k + 1) s (bl (x k)) x x w (by omega) hm hx hx (by omega) (by omega) hpos
    have ht := tw173
    have hd : x k / 2 ^ bl (x k) = 0 := Nat.div_eq_of_lt (bl_lt (x := x k))
    have hv := vl_lw (x := x) (s := s) (t := bl (x k)) (by omega) k
    rw [hd, Nat.zero_mul, Nat.add_zero] at hv
    have hfin := Lib.hid fun w' (h1 : Rw b 0 (0 + (k + 1)) w w') (h2 : Wd w' b 0 (k + 1) (lw x s (bl (x k)))) => (show Fn w b (k + 1) x (.returned (.int .i64 (s : Int))) w' from ⟨⟨_, rfl⟩, ⟨_, h2, by rw [hsm]; exact hv⟩, by rw [Nat.zero_add] at h1; exact h1⟩)
    have hs64 : s ≤ 64 := by omega
    have hs0 : 0 < s := by omega
    have hs0' : (0 : Int) < s := by omega
    clear hx hc hbl hlt hle hs hsm hn hd hv hpos
    generalize bl (x k) = t at *
    rw [Nat.add_sub_cancel] at hL
    generalize (x k : Int) / 2 ^ t = y at *
    generalize x k = a at *
    go_enter Tryz.func143, Tryz.ntmps143
    go_wp2_with (first
      | (go_at_call 172; refine hN.mono ?_; rintro e w' ⟨rfl, rfl⟩)
      | (go_at_call 88; refine hL.mono ?_; rintro e w' ⟨rfl, g1, g2⟩
         have hf := Lib.hid (hfin.out w' g1 g2)
         clear g1 g2))
    go_ret
    exact hf.out
end
section
open Go.RowKit
structure Fl (w : World) (p pr : Nat) (acc : Int) (fm : Nat) (ng : Bool) (o : Option (Nat × Nat)) (n : Nat) (f : Nat → Nat) (ex : Int) : Prop where
  c0 : w.cell? ⟨p, 0, none⟩ = some (.int .u32 (pr : Nat))
  c1 : w.cell? ⟨p, 1, none⟩ = some (.int .u8 0)
  c2 : w.cell? ⟨p, 2, none⟩ = some (.int .i8 acc)
  c3 : w.cell? ⟨p, 3, none⟩ = some (.int .u8 (fm : Nat))
  c4 : w.cell? ⟨p, 4, none⟩ = some (.bool ng)
  c5 : w.cell? ⟨p, 5, none⟩ = some (nv o n)
  c6 : w.cell? ⟨p, 6, none⟩ = some (.int .i32 ex)
  fz : ∀ i, w.frozen? ⟨p, i, none⟩ = false
  nt : Nt w o n f
  ap : ¬ InB o p
  pl : Plain w p
variable {w w' : World} {p pr : Nat} {acc : Int} {fm : Nat} {ng : Bool} {o : Option (Nat × Nat)} {n : Nat} {f : Nat → Nat} {ex : Int}
theorem Fl.lt (h : Fl w p pr acc fm ng o n f ex) : p < w.heap.size := World.block_lt_of_cell? w _ h.c0
theorem Fl.turn {S : Nat → Prop} (h : Fl w p pr acc fm ng o n f ex) (t : Turn S w w') (hp : ¬ S p) (ho : ∀ k, InB o k → ¬ S k) : Fl w' p pr acc fm ng o n f ex := by
  have hl := h.lt
  have k : ∀ i, w'.cell? ⟨p, i, none⟩ = w.cell? ⟨p, i, none⟩ := fun i => t.cell (p := ⟨p, i, none⟩) hl hp
  exact ⟨(k 0).trans h.c0, (k 1).trans h.c1, (k 2).trans h.c2, (k 3).trans h.c3, (k 4).trans h.c4, (k 5).trans h.c5, (k 6).trans h.c6, fun i => (t.frozen (p := ⟨p, i, none⟩) hl hp).trans (h.fz i), h.nt.turn t ho, h.ap, h.pl.turn t hp⟩
theorem Fl.still (h : Fl w p pr acc fm ng o n f ex) (t : Turn (fun _ => False) w w') : Fl w' p pr acc fm ng o n f ex := h.turn t id fun _ _ g => g
theorem set_turn (w : World) (p i : Nat) (u : Value) : Turn (fun k => k = p) w (w.setCell ⟨p, i, none⟩ u) := (Turn.refl (fun k => k = p) w).setCell (p := ⟨p, i, none⟩) (fun _ => rfl) u
theorem set_other (w : World) (p i j : Nat) (u : Value) (h : i ≠ j) : (w.setCell ⟨p, i, none⟩ u).cell? ⟨p, j, none⟩ = w.cell? ⟨p, j, none⟩ :=
  World.cell?_setCell_other _ _ _ _ fun e => h (congrArg Addr.off e)
theorem Fl.setAcc (h : Fl w p pr acc fm ng o n f ex) (a : Int) : Fl (w.setCell ⟨p, 2, none⟩ (.int .i8 a)) p pr a fm ng o n f ex := by
  have k : ∀ j, 2 ≠ j → (w.setCell ⟨p, 2, none⟩ (.int .i8 a)).cell? ⟨p, j, none⟩ = w.cell? ⟨p, j, none⟩ := fun j hj => set_other w p 2 j _ hj
  exact ⟨(k 0 (by omega)).trans h.c0, (k 1 (by omega)).trans h.c1, World.cell?_setCell_same _ _ _ h.c2, (k 3 (by omega)).trans h.c3, (k 4 (by omega)).trans h.c4, (k 5 (by omega)).trans h.c5, (k 6 (by omega)).trans h.c6,
    fun i => by rw [World.frozen?_setCell]; exact h.fz i, h.nt.turn (set_turn w p 2 _) fun k g e => by subst e; exact h.ap g, h.ap, h.pl.setCell _ _⟩
def FRes (w : World) (p pr : Nat) (acc : Int) (ng : Bool) (o : Option (Nat × Nat)) (n : Nat) (g : (Nat → Nat) → Prop) (ex : Int) (e : Ending) (w' : World) : Prop :=
  e = .returned (.tuple #[]) ∧ ∃ f, Fl w' p pr acc 1 ng o n f ex ∧ g f ∧ Turn (fun k => k = p ∨ InB o k) w w'
theorem nv_form (o : Option (Nat × Nat)) (n : Nat) : ∃ a l k, nv o n = .slice a l k := by
  rcases o with _ | ⟨b, c⟩ <;> exact ⟨_, _, _, rfl⟩
set_option maxRecDepth 100000 in
set_option maxHeartbeats 1000000 in
theorem round_fit (b c : Nat) (w : World) (h : Fl w p pr acc 1 ng (some (b, c)) n f ex) (hf : 64 * n ≤ pr) (hn : n ≤ 100000) :
    Calls Tryz.prog 175 #[.pointer (some ⟨p, 0, none⟩), .int .u64 0] w (FRes w p pr 0 ng (some (b, c)) n (fun g => vl g n = vl f n) ex) := by
  obtain ⟨c0, c1, c2, c3, c4, c5, c6, fz, nt, ap, -⟩ := h.setAcc 0
  have hfin : FRes w p pr 0 ng (some (b, c)) n (fun g => vl g n = vl f n) ex (.returned (.tuple #[])) (w.setCell ⟨p, 2, none⟩ (.int .i8 0)) :=
    ⟨rfl, f, h.setAcc 0, rfl, (set_turn w p 2 _).mono fun _ _ e => .inl e⟩
  have d2 := h.c2
  have d3 := h.fz 2
  have hm : (n : Int) * 64 ≤ pr := by omega
  replace hfin := Lib.hid hfin
  clear h
  simp only [nv] at c5
  clear nt ap fz c1 c4 c6 c2
  go_enter Tryz.func175, Tryz.ntmps175
  go_wp2_with fail
  refine bodyPost_end (results_none rfl _ _ _) rfl ?_
  exact hfin.out
theorem andNot_low {a K : Nat} (ha : a < 18446744073709551616) (hK : K ≤ 64) : bits .andNot .u64 (a : Int) (2 ^ K - 1) = ((a / 2 ^ K * 2 ^ K : Nat) : Int) := by
  have e64 : (18446744073709551616 : Nat) = 2 ^ 64 := by decide
  have hp := Nat.two_pow_pos K
  have hle : 2 ^ K ≤ 2 ^ 64 := Nat.pow_le_pow_right (by omega) hK
  have e : ((2 : Int) ^ K - 1) = ((2 ^ K - 1 : Nat) : Int) := by rw [Int.natCast_sub hp, Int.natCast_pow]; rfl
  rw [e, u64_andNot_nat a (2 ^ K - 1) ha (by omega)]
  congr 1
  have e2 : 18446744073709551615 - (2 ^ K - 1) = 2 ^ 64 - (2 ^ K - 1 + 1) := by omega
  rw [e2]
  apply Nat.eq_of_testBit_eq
  intro i
  rw [Nat.testBit_and, Nat.testBit_two_pow_sub_succ (by omega), Nat.testBit_mul_two_pow, Nat.testBit_div_two_pow, Nat.testBit_two_pow_sub_one]
  by_cases h1 : i < 64
  · by_cases h2 : i < K
    · simp [h1, h2]; omega
    · have h3 : K ≤ i := by omega
      simp [h1, h3, show i - K + K = i by omega]
  · have h2 : a.testBit i = false := Nat.testBit_lt_two_pow (Nat.lt_of_lt_of_le (e64 ▸ ha) (Nat.pow_le_pow_right (by omega) (by omega)))
    have h3 : K ≤ i := by omega
    simp [h1, h2, h3, show i - K + K = i by omega]
theorem Fl.word {b c k v : Nat} (h : Fl w p pr acc fm ng (some (b, c)) n f ex) (hk : k < c) (hv : v < 18446744073709551616) :
    Fl (w.setCell ⟨b, k, none⟩ (.int .u64 (v : Nat))) p pr acc fm ng (some (b, c)) n (fun j => if j = k then v else f j) ex := by
  have hne : p ≠ b := fun e => h.ap ⟨c, by rw [e]⟩
  have t := set_turn w b k (.int .u64 (v : Nat))
  have hl := h.lt
  have q : ∀ i, (w.setCell ⟨b, k, none⟩ (.int .u64 (v : Nat))).cell? ⟨p, i, none⟩ = w.cell? ⟨p, i, none⟩ := fun i => t.cell (p := ⟨p, i, none⟩) hl hne
  obtain ⟨n1, n2, n3, n4, n5⟩ := h.nt
  have hw := n4.put (k := k) hk hv
  rw [Nat.zero_add] at hw
  exact ⟨(q 0).trans h.c0, (q 1).trans h.c1, (q 2).trans h.c2, (q 3).trans h.c3, (q 4).trans h.c4, (q 5).trans h.c5, (q 6).trans h.c6, fun i => (t.frozen (p := ⟨p, i, none⟩) hl hne).trans (h.fz i), ⟨n1, n2, n3, hw, n5.setCell _ _⟩, h.ap, h.pl.setCell _ _⟩
set_option maxRecDepth 100000 in
set_option maxHeartbeats 1000000 in
theorem round_same (b c K : Nat) (w : World) (h : Fl w p pr acc 1 ng (some (b, c)) n f ex) (hK1 : 1 ≤ K) (hK2 : K ≤ 63) (hf : 64 * n = pr + K) (hn : n ≤ 100000) (hd : vl f n % 2 ^ K = 0) :
    Calls Tryz.prog 175 #[.pointer (some ⟨p, 0, none⟩), .int .u64 0] w (FRes w p pr 0 ng (some (b, c)) n (fun g => vl g n = vl f n) ex) := by
  have h1 := h.setAcc 0
  have hn1 : 1 ≤ n := by omega
  have hne : b ≠ p := fun e => h.ap ⟨c, by rw [e]⟩
  have hwd : Wd (w.setCell ⟨p, 2, none⟩ (.int .i8 0)) b 0 n f := h1.nt.2.2.2.1.mono h1.nt.1
  have hbd := h1.nt.bd
  have hB := bit_any b c n (K - 1) f _ hwd (by omega) hn
  have hS := sticky_any b c n (K - 1) f _ hwd (by omega) hn h1.nt.1
  have hdv : (2 : Nat) ^ K = 2 ^ (K - 1) * 2 := by rw [← Nat.pow_succ]; congr 1; omega
  obtain ⟨q, hq⟩ := Nat.dvd_of_mod_eq_zero hd
  have e1 : vl f n / 2 ^ (K - 1) % 2 = 0 := by
    rw [hq, hdv, Nat.mul_assoc, Nat.mul_div_cancel_left _ (Nat.two_pow_pos _), Nat.mul_mod_right]
  have e2 : vl f n % 2 ^ (K - 1) = 0 := by
    rw [hq, hdv, Nat.mul_assoc, Nat.mul_mod_right]
  rw [e1] at hB
  rw [e2, stk_zero] at hS
  have hr : (K : Int) - 1 = ((K - 1 : Nat) : Int) := by omega
  rw [← hr] at hB hS
  have hlow := (vl_low (x := f) (m := n) (j := 0) (s := K) (by omega) (by omega) hbd).1 (by rw [Nat.mul_zero, Nat.zero_add]; exact hd)
  have hf0 : f 0 / 2 ^ K * 2 ^ K = f 0 := Nat.div_mul_cancel (Nat.dvd_of_mod_eq_zero hlow.2)
  have hA := andNot_low (a := f 0) (K := K) (hbd 0 (by omega)) (by omega)
  rw [hf0] at hA
  have hc0 := hwd 0 (by omega)
  have h2 := h1.word (k := 0) (v := f 0) (by have := h1.nt.1; omega) hc0.2.2
  have hfin : FRes w p pr 0 ng (some (b, c)) n (fun g => vl g n = vl f n) ex (.returned (.tuple #[])) ((w.setCell ⟨p, 2, none⟩ (.int .i8 0)).setCell ⟨b, 0, none⟩ (.int .u64 (f 0 : Nat))) :=
    ⟨rfl, _, h2, vl_congr fun i _ => by show (if i = 0 then f 0 else f i) = f i; split <;> simp_all, ((set_turn w p 2 _).mono fun _ _ e => .inl e).trans' ((set_turn _ b 0 _).mono fun k _ e => .inr ⟨c, by rw [show k = b from e]⟩)⟩
  obtain ⟨k0, k1, k2, k3, k4, k5, k6, fz, nt, ap, -⟩ := h1
  have d2 := h.c2
  have d3 := h.fz 2
  simp only [nv] at k5
  rw [Nat.zero_add] at hc0
  obtain ⟨cx, fx, lx⟩ := hc0
  have hm : ¬ (n : Int) * 64 ≤ pr := by omega
  have hn2 : ((pr : Int) + 63) / 64 = n := by omega
  have b1 : bits .and .u64 0 1 = 0 := by decide
  have b2 : bits .or .u64 0 0 = 0 := by decide
  have hK3 : (n : Int) * 64 - (pr : Int) = (K : Int) := by omega
  have hp1 : IntKind.u64.wrap (2 ^ K) = 2 ^ K := by
    have : (2 : Nat) ^ K ≤ 2 ^ 63 := Nat.pow_le_pow_right (by omega) hK2
    have e : (2 : Int) ^ K = ((2 ^ K : Nat) : Int) := by rw [Int.natCast_pow]; rfl
    rw [e, IntKind.wrap_u64]
    omega
  have hp2 : IntKind.u64.wrap (2 ^ K - 1) = 2 ^ K - 1 := by
    have : (2 : Nat) ^ K ≤ 2 ^ 63 := Nat.pow_le_pow_right (by omega) hK2
    have := Nat.two_pow_pos K
    have e : (2 : Int) ^ K = ((2 ^ K : Nat) : Int) := by rw [Int.natCast_pow]; rfl
    rw [e, IntKind.wrap_u64]
    omega
  replace hfin := Lib.hid hfin
  clear h nt ap fz k1 k4 k6 k2 hwd hbd hdv hq e1 e2 hr hlow hf0 h2 hd
  go_enter Tryz.func175, Tryz.ntmps175
  go_wp2_with (first
    | (go_at_call 196; go_loud ((with_reducible refine hB.mono ?_); rintro e w' ⟨rfl, rfl⟩))
    | (go_at_call 147; ((with_reducible refine hS.mono ?_)); rintro e w' ⟨rfl, rfl⟩))
  refine bodyPost_end (results_none rfl _ _ _) rfl ?_
  exact hfin.out
end
section
open Go.RowKit
def rup (M K : Nat) : Bool := decide (2 ^ K < 2 * (M % 2 ^ K) ∨ (2 * (M % 2 ^ K) = 2 ^ K ∧ M / 2 ^ K % 2 = 1))
def accOf (up ng : Bool) : Int := if (up != ng) then 1 else -1
theorem rup_parts (M K : Nat) (hK : 1 ≤ K) : M % 2 ^ K = (M / 2 ^ (K - 1) % 2) * 2 ^ (K - 1) + M % 2 ^ (K - 1) ∧ M % 2 ^ (K - 1) < 2 ^ (K - 1) ∧ 2 ^ K = 2 ^ (K - 1) * 2 := by
  have e : 2 ^ K = 2 ^ (K - 1) * 2 := by rw [← Nat.pow_succ]; congr 1; omega
  refine ⟨?_, Nat.mod_lt _ (Nat.two_pow_pos _), e⟩
  rw [e, Nat.mod_mul, Nat.add_comm, Nat.mul_comm]
theorem rup_zero {M K : Nat} (hK : 1 ≤ K) (h : M / 2 ^ (K - 1) % 2 = 0) : rup M K = false := by
  obtain ⟨h1, h2, h3⟩ := rup_parts M K hK
  rw [h, Nat.zero_mul, Nat.zero_add] at h1
  unfold rup
  rw [h1, h3]
  exact decide_eq_false (by omega)
theorem rup_one {M K : Nat} (hK : 1 ≤ K) (h : M / 2 ^ (K - 1) % 2 = 1) : rup M K = if M % 2 ^ (K - 1) = 0 then decide (M / 2 ^ K % 2 = 1) else true := by
  obtain ⟨h1, h2, h3⟩ := rup_parts M K hK
  rw [h, Nat.one_mul] at h1
  unfold rup
  rw [h1]
  have hp := Nat.two_pow_pos (K - 1)
  by_cases g : M % 2 ^ (K - 1) = 0
  · rw [if_pos g, g, h3]
    congr 1
    rw [eq_iff_iff]
    constructor
    · rintro (h | h)
      · omega
      · exact h.2
    · exact fun h => .inr ⟨by omega, h⟩
  · rw [if_neg g, h3]
    exact decide_eq_true (by omega)
theorem and_pow {T s : Nat} (hT : T < 18446744073709551616) (hs : s ≤ 63) : (bits .and .u64 (T : Int) (2 ^ s) != 0) = decide (T / 2 ^ s % 2 = 1) := by
  have hle : 2 ^ s ≤ 2 ^ 63 := Nat.pow_le_pow_right (by omega) hs
  have hp := Nat.two_pow_pos s
  have e : ((2 : Int) ^ s) = ((2 ^ s : Nat) : Int) := by rw [Int.natCast_pow]; rfl
  have hb : T.testBit s = decide (T / 2 ^ s % 2 = 1) := Nat.testBit_eq_decide_div_mod_eq
  rw [e, u64_and_nat T (2 ^ s) hT (by omega), ← hb]
  have key : (T &&& 2 ^ s).testBit s = T.testBit s := by rw [Nat.testBit_and, Nat.testBit_two_pow_self, Bool.and_true]
  cases g : T.testBit s
  · rw [bne_eq_false_iff_eq]
    have : T &&& 2 ^ s = 0 := by
      apply Nat.eq_of_testBit_eq
      intro i
      rw [Nat.testBit_and, Nat.testBit_two_pow, Nat.zero_testBit]
      by_cases hi : s = i
      · subst hi; rw [g]; rfl
      · simp [hi]
    rw [this]; rfl
  · rw [bne_iff_ne]
    intro h
    have h : T &&& 2 ^ s = 0 := by omega
    rw [h, Nat.zero_testBit, g] at key
    cases key
structure Cut (M K pr s : Nat) (ng : Bool) (ex acc' ex' : Int) (v : Nat) : Prop where
  acc : acc' = if M % 2 ^ K = 0 then 0 else accOf (rup M K) ng
  full : M / 2 ^ K + (rup M K).toNat = 2 ^ pr → v = 2 ^ 63 ∧ ex' = ex + 1
  part : M / 2 ^ K + (rup M K).toNat ≠ 2 ^ pr → v = (M / 2 ^ K + (rup M K).toNat) * 2 ^ s ∧ ex' = ex
def CRes (w : World) (p pr : Nat) (ng : Bool) (b c M K s : Nat) (ex : Int) (e : Ending) (w' : World) : Prop :=
  e = .returned (.tuple #[]) ∧ ∃ acc' ex' g, Fl w' p pr acc' 1 ng (some (b, c)) 1 g ex' ∧ Cut M K pr s ng ex acc' ex' (g 0) ∧ Turn (fun k => k = p ∨ k = b) w w'
structure Top (M K pr s T : Nat) : Prop where
  q : M / 2 ^ K = T / 2 ^ s
  lt : T < 18446744073709551616
  ge : 9223372036854775808 ≤ T
  ps : pr + s = 64
  p1 : 1 ≤ pr
  p2 : pr ≤ 53
  K1 : 1 ≤ K
theorem Top.of {f : Nat → Nat} {m pr s : Nat} (hf : ∀ i, i < m + 1 → f i < 18446744073709551616) (ht : 9223372036854775808 ≤ f m) (ps : pr + s = 64) (p1 : 1 ≤ pr) (p2 : pr ≤ 53) : Top (vl f (m + 1)) (64 * m + s) pr s (f m) := by
  refine ⟨?_, hf m (by omega), ht, ps, p1, p2, by omega⟩
  have hl := vl_lt (f := f) (n := m) fun i hi => hf i (by omega)
  rw [Nat.pow_add, ← pow64, ← Nat.div_div_eq_div_mul, vl_succ, Nat.mul_comm, Nat.add_mul_div_left _ _ (by rw [pow64]; exact Nat.two_pow_pos _), Nat.div_eq_of_lt hl, Nat.zero_add]
theorem Top.q_lt {M K pr s T : Nat} (h : Top M K pr s T) : T / 2 ^ s < 2 ^ pr := by
  rw [Nat.div_lt_iff_lt_mul (Nat.two_pow_pos s), ← Nat.pow_add, h.ps]
  exact h.lt
theorem pw64 : (2 : Nat) ^ 64 = 18446744073709551616 := by decide
theorem pw63 : (2 : Nat) ^ 63 = 9223372036854775808 := by decide
theorem Cut.down {M K pr s T : Nat} {ng : Bool} {ex acc' : Int} (h : Top M K pr s T) (hu : rup M K = false) (ha : acc' = if M % 2 ^ K = 0 then 0 else accOf false ng) : Cut M K pr s ng ex acc' ex (T / 2 ^ s * 2 ^ s) := by
  have hq := h.q_lt
  refine ⟨by rw [hu]; exact ha, fun g => ?_, fun g => ?_⟩
  · rw [hu, h.q] at g
    have : T / 2 ^ s + 0 = 2 ^ pr := g
    omega
  · rw [hu, h.q]
    exact ⟨rfl, rfl⟩
theorem Cut.up {M K pr s T : Nat} {ng : Bool} {ex acc' : Int} (h : Top M K pr s T) (hu : rup M K = true) (ha : acc' = accOf true ng) (hr : M % 2 ^ K ≠ 0) (hc : T + 2 ^ s < 18446744073709551616) : Cut M K pr s ng ex acc' ex ((T + 2 ^ s) / 2 ^ s * 2 ^ s) := by
  have hp := Nat.two_pow_pos s
  have e : (T + 2 ^ s) / 2 ^ s = T / 2 ^ s + 1 := Nat.add_div_right _ hp
  have hlt : T / 2 ^ s + 1 < 2 ^ pr := by
    rw [← e, Nat.div_lt_iff_lt_mul hp, ← Nat.pow_add, h.ps]
    exact hc
  refine ⟨by rw [hu, if_neg hr]; exact ha, fun g => ?_, fun g => ?_⟩
  · rw [hu, h.q] at g
    have : T / 2 ^ s + 1 = 2 ^ pr := g
    omega
  · rw [hu, h.q, e]
    exact ⟨rfl, rfl⟩
theorem Cut.over {M K pr s T : Nat} {ng : Bool} {ex acc' : Int} (h : Top M K pr s T) (hu : rup M K = true) (ha : acc' = accOf true ng) (hr : M % 2 ^ K ≠ 0) (hc : 18446744073709551616 ≤ T + 2 ^ s) : Cut M K pr s ng ex acc' (ex + 1) (2 ^ 63) := by
  have hp := Nat.two_pow_pos s
  have e : (T + 2 ^ s) / 2 ^ s = T / 2 ^ s + 1 := Nat.add_div_right _ hp
  have hlt : 2 ^ pr ≤ T / 2 ^ s + 1 := by
    rw [← e, Nat.le_div_iff_mul_le hp, ← Nat.pow_add, h.ps]
    exact hc
  refine ⟨by rw [hu, if_neg hr]; exact ha, fun g => ⟨rfl, rfl⟩, fun g => ?_⟩
  · rw [hu, h.q] at g
    have hq := h.q_lt
    exact absurd (show T / 2 ^ s + 1 = 2 ^ pr by omega) g
theorem over_word {M K pr s T : Nat} (h : Top M K pr s T) (hc : 18446744073709551616 ≤ T + 2 ^ s) : ((T + 2 ^ s) % 18446744073709551616 / 2 ||| 9223372036854775808) / 2 ^ s * 2 ^ s = 2 ^ 63 ∧ (T + 2 ^ s) % 18446744073709551616 / 2 < 9223372036854775808 := by
  have hp := Nat.two_pow_pos s
  have hT := h.lt
  have h1 := h.p1
  have h2 := h.ps
  have hs : 2 ^ s ≤ 2 ^ 63 := Nat.pow_le_pow_right (by omega) (by omega)
  rw [pw63] at hs
  have e1 : (T + 2 ^ s) % 18446744073709551616 = T + 2 ^ s - 18446744073709551616 := by omega
  have e2 : (T + 2 ^ s) % 18446744073709551616 / 2 < 2 ^ s := by omega
  generalize (T + 2 ^ s) % 18446744073709551616 / 2 = a at *
  refine ⟨?_, by omega⟩
  have e3 : a ||| 9223372036854775808 = 9223372036854775808 + a := by
    have := Nat.two_pow_add_eq_or_of_lt (i := 63) (b := a) (by rw [pw63]; omega) 1
    rw [Nat.mul_one, pw63] at this
    rw [Nat.or_comm, ← this]
  obtain ⟨d, hd⟩ : ∃ d, 63 = s + d := ⟨63 - s, by omega⟩
  have e4 : (9223372036854775808 : Nat) = 2 ^ s * 2 ^ d := by rw [← Nat.pow_add, ← hd, pw63]
  rw [e3, e4, Nat.mul_add_div hp, Nat.div_eq_of_lt e2, Nat.add_zero, Nat.mul_comm, ← e4, pw63]
end
end Go.Proofs.YtllapbkoildfiaaGreatFmt
