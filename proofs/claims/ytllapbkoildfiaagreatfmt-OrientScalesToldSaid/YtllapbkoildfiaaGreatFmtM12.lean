/- Natural numbers of big: shifts to the right · Natural numbers of big: or with less than the lowest bits of a number whose lowest bits are nought, and what the lowest bits are. -/
import Derived.Test.YtllapbkoildfiaaGreatFmtM11
set_option linter.all false
namespace Go.Proofs.YtllapbkoildfiaaGreatFmt
section
open Go.RowKit
theorem vl_drop {x : Nat → Nat} {a m : Nat} (ha : a ≤ m) (hx : ∀ i, i < m → x i < 18446744073709551616) : vl (fun i => x (a + i)) (m - a) = vl x m / 18446744073709551616 ^ a := by
  obtain ⟨q, rfl⟩ : ∃ q, m = a + q := ⟨m - a, by omega⟩
  rw [Nat.add_sub_cancel_left, vl_add]
  have h1 := vl_lt (f := x) (n := a) fun i hi => hx i (by omega)
  rw [Nat.add_mul_div_left _ _ (Nat.pow_pos (by omega)), Nat.div_eq_of_lt h1, Nat.zero_add]
theorem vl_rsw {x : Nat → Nat} {a b t m : Nat} (hbt : b + t = 64) (ha : a < m) (hx : ∀ i, i < m → x i < 18446744073709551616) :
    vl (rw' (fun i => x (a + i)) (m - a - 1) b t) (m - a) = vl x m / 2 ^ (64 * a + b) := by
  obtain ⟨n, hn⟩ : ∃ n, m - a = n + 1 := ⟨m - a - 1, by omega⟩
  have h1 := vl_rw (x := fun i => x (a + i)) hbt n
  have h2 := vl_drop (x := x) (Nat.le_of_lt ha) hx
  rw [hn] at h2 ⊢
  rw [Nat.add_sub_cancel, Nat.pow_add, ← Nat.div_div_eq_div_mul, Nat.pow_mul]
  have e : (2 : Nat) ^ 64 = 18446744073709551616 := by decide
  rw [e, ← h2, ← h1]
  have h3 : x (a + 0) % 2 ^ b < 2 ^ b := Nat.mod_lt _ (Nat.two_pow_pos b)
  rw [Nat.mul_comm, Nat.mul_add_div (Nat.two_pow_pos b), Nat.div_eq_of_lt h3]
  exact (Nat.add_zero _).symm
theorem rsh_call (zb c xb a xc n b t : Nat) (f x : Nat → Nat) (w : World) (hn1 : 1 ≤ n) (hn : n ≤ 100000) (hz : Wd w zb 0 n f) (hx : Wd w xb a n x) (hbt : b + t = 64) (hb : 1 ≤ b) (ht : 1 ≤ t) :
    Calls Tryz.prog 89 #[.slice (some ⟨zb, 0, none⟩) n c, .slice (some ⟨xb, a, none⟩) n xc, .int .u64 (b : Int)] w fun e w' =>
      ∃ v, e = .returned v ∧ Rw zb 0 n w w' ∧ Wd w' zb 0 n (rw' x (n - 1) b t) := by
  obtain ⟨k, rfl⟩ : ∃ k, n = k + 1 := ⟨n - 1, by omega⟩
  exact (rshVU_any zb 0 c xb a xc k b t f x w (by omega) hz hx (fun _ => Nat.zero_le _) hbt hb ht).mono fun e w' ⟨h1, h2, h3⟩ => ⟨_, h1, by rw [Nat.zero_add] at h2; exact h2, h3⟩
set_option maxRecDepth 100000 in
set_option maxHeartbeats 1000000 in
theorem rsh_bits (zo : Option (Nat × Nat)) (mz xb xc m s a b t : Nat) (fz x : Nat → Nat) (w : World) (hz : Nt w zo mz fz) (hx : Nt w (some (xb, xc)) m x) (hm : m ≤ 100000) (hs : s = 64 * a + b) (ha : a < m) (hb : 1 ≤ b) (hbt : b + t = 64) (ht : 1 ≤ t) :
    Calls Tryz.prog 159 #[nv zo mz, .slice (some ⟨xb, 0, none⟩) m xc, .int .u64 (s : Int)] w (NRes w zo (vl x m / 2 ^ s)) := by
  have hmk : Calls Tryz.prog 171 #[nv zo mz, .int .i64 ((m : Int) - (a : Int))] w fun e w' => ∃ zb c f, e = .returned (.slice (some ⟨zb, 0, none⟩) (m - a) c) ∧ Hid (Room w zo (m - a) zb c f w') := by
    have e : (m : Int) - (a : Int) = ((m - a : Nat) : Int) := by omega
    rw [e]; exact make_any zo mz (m - a) fz w hz (by omega) (by omega)
  have hl : ∃ p l k, nv zo mz = .slice p l k := by rcases zo with _ | ⟨b, c⟩ <;> exact ⟨_, _, _, rfl⟩
  obtain ⟨p, l, k, e⟩ := hl
  rw [e] at hmk ⊢
  clear e hz
  have s0 : ((s : Int) == 0) = false := beq0_false (by omega)
  have b0 : ((b : Int) == 0) = false := beq0_false (by omega)
  have hq : (s : Int) / 64 = (a : Int) := by omega
  have hr : (s : Int) % 64 = (b : Int) := by omega
  have hsb : s ≤ 10000000 := by omega
  have hmx := hx.1
  have hax : a < xc := by omega
  have hn0 : ¬ ((m : Int) - (a : Int) ≤ 0) := by omega
  have hsub : (m : Int) - ((m : Int) - (a : Int)) = (a : Int) := by omega
  replace hs := Lib.hid hs
  replace hbt := Lib.hid hbt
  replace hx := Lib.hid hx
  have e190 := tw190
  go_enter Tryz.func159, Tryz.ntmps159
  go_wp2_with (first
    | (go_at_call 171; refine hmk.mono ?_; rintro e w1 ⟨zb, c, f, rfl, hroom⟩; have hle := hroom.out.le; have hcap := hroom.out.cap)
    | (go_at_call 89; refine (rsh_call zb c xb a (xc - a) (m - a) b t f (fun i => x (a + i)) w1 (by omega) (by omega) (hroom.out.wd.mono hle) (fun i hi => by
         have := (hx.out.2.2.2.1.still hroom.out.turn) (a + i) (by omega)
         rw [Nat.zero_add] at this; exact this) hbt.out hb ht).mono ?_
       rintro e wa ⟨v, rfl, hrA, hgA⟩
       have hrA := Lib.hid hrA
       have hgA := Lib.hid hgA))
  have hfin := Lib.hid (hroom.out.res (v := vl x m / 2 ^ s) (by omega) hrA.out hgA.out (Nat.le_refl _) (by rw [vl_rsw hbt.out ha hx.out.bd, hs.out]))
  refine (norm_some zb c (m - a) _ _ hle hcap hgA.out).mono ?_
  rintro e w9 ⟨rfl, rfl⟩
  go_wp2_with fail
  go_ret
  exact hfin.out
set_option maxRecDepth 100000 in
set_option maxHeartbeats 1000000 in
theorem rsh_words (zo : Option (Nat × Nat)) (mz xb xc m s a : Nat) (fz x : Nat → Nat) (w : World) (hz : Nt w zo mz fz) (hx : Nt w (some (xb, xc)) m x) (hm : m ≤ 100000) (hs : s = 64 * a) (ha : a < m) (ha1 : 1 ≤ a) :
    Calls Tryz.prog 159 #[nv zo mz, .slice (some ⟨xb, 0, none⟩) m xc, .int .u64 (s : Int)] w (NRes w zo (vl x m / 2 ^ s)) := by
  have hmk : Calls Tryz.prog 171 #[nv zo mz, .int .i64 ((m : Int) - (a : Int))] w fun e w' => ∃ zb c f, e = .returned (.slice (some ⟨zb, 0, none⟩) (m - a) c) ∧ Hid (Room w zo (m - a) zb c f w') := by
    have e : (m : Int) - (a : Int) = ((m - a : Nat) : Int) := by omega
    rw [e]; exact make_any zo mz (m - a) fz w hz (by omega) (by omega)
  have hl : ∃ p l k, nv zo mz = .slice p l k := by rcases zo with _ | ⟨b, c⟩ <;> exact ⟨_, _, _, rfl⟩
  obtain ⟨p, l, k, e⟩ := hl
  rw [e] at hmk ⊢
  clear e hz
  have s0 : ((s : Int) == 0) = false := beq0_false (by omega)
  have hq : (s : Int) / 64 = (a : Int) := by omega
  have hr : (s : Int) % 64 = 0 := by omega
  have hsb : s ≤ 10000000 := by omega
  have hmx := hx.1
  have hax : a < xc := by omega
  have hn0 : ¬ ((m : Int) - (a : Int) ≤ 0) := by omega
  have hsub : (m : Int) - ((m : Int) - (a : Int)) = (a : Int) := by omega
  replace hs := Lib.hid hs
  replace hx := Lib.hid hx
  go_enter Tryz.func159, Tryz.ntmps159
  go_wp2_with (first
    | (go_at_call 171; refine hmk.mono ?_; rintro e w1 ⟨zb, c, f, rfl, hroom⟩
       have hle := hroom.out.le
       have hcap := hroom.out.cap
       obtain ⟨wa, hcp, hrA, hgA⟩ := run_copy_wd w1 3 126 Tryz.underlying126 (zb := zb) (zo := 0) (zl := m - a) (zc := c) (xb := xb) (xo := a) (xl := m - a) (xc := xc - a) (f := f) (x := fun i => x (a + i)) (hroom.out.wd.mono hle) (fun i hi => by
         have := (hx.out.2.2.2.1.still hroom.out.turn) (a + i) (by omega)
         rw [Nat.zero_add] at this; exact this) (Nat.min_self _).symm
       rw [Nat.zero_add] at hrA
       have hrA := Lib.hid hrA
       have hgA := Lib.hid hgA))
  have hfin := Lib.hid (hroom.out.res (v := vl x m / 2 ^ s) (by omega) hrA.out hgA.out (Nat.le_refl _) (by rw [vl_drop (Nat.le_of_lt ha) hx.out.bd, hs.out, Nat.pow_mul]))
  refine (norm_some zb c (m - a) _ _ hle hcap hgA.out).mono ?_
  rintro e w9 ⟨rfl, rfl⟩
  go_wp2_with fail
  go_ret
  exact hfin.out
set_option maxHeartbeats 1000000 in
theorem rsh_none (xo : Option (Nat × Nat)) (m : Nat) (x : Nat → Nat) (w : World) (hx : Nt w xo m x) (hm : m ≤ 100000) (hx0 : Nrm x m) :
    Calls Tryz.prog 159 #[.slice none 0 0, nv xo m, .int .u64 0] w (NRes w none (vl x m)) := by
  have hl : ∃ p l k, nv xo m = .slice p l k ∧ l ≤ 100000000 := by
    rcases xo with _ | ⟨b, c⟩
    · exact ⟨_, _, _, rfl, by omega⟩
    · exact ⟨_, _, _, rfl, by omega⟩
  obtain ⟨p, l, k, e, hl⟩ := hl
  have hset : ∀ q, Calls Tryz.prog 142 #[.slice none 0 0, nv xo m] (w.drewN q) (NRes (w.drewN q) none (vl x m)) := fun q => set_any none xo 0 m (fun _ => 0) x (w.drewN q) rfl (by rcases xo with _ | ⟨b, c⟩ <;> exact hx) (by omega) hx0
  rw [e] at hset ⊢
  clear e hx hx0
  replace hset := Lib.hid hset
  go_enter Tryz.func159, Tryz.ntmps159
  go_wp2_with (first
    | (go_at_call 180; refine (same_nil _ _ _ hl _).mono ?_; rintro e w' ⟨rfl, q, rfl⟩)
    | (go_at_call 181; refine (alias_nil _ _ _ _).mono ?_; rintro e w' ⟨rfl, q2, rfl⟩)
    | (go_at_call 142; refine (hset.out _).mono ?_; rintro e w2 ⟨o, k, f, rfl, hres⟩; have hres := Lib.hid hres))
  go_ret
  exact NRes.drewN ⟨o, _, f, rfl, hres.out⟩
theorem rsh_out (zo : Option (Nat × Nat)) (mz : Nat) (p : Option Addr) (m c s : Nat) (fz : Nat → Nat) (w : World) (hz : Nt w zo mz fz) (hs : 1 ≤ s) (hs2 : s ≤ 100000000) (hm : m ≤ s / 64) :
    Calls Tryz.prog 159 #[nv zo mz, .slice p m c, .int .u64 (s : Int)] w (NRes w zo 0) := by
  have s0 : ((s : Int) == 0) = false := beq0_false (by omega)
  have hq : (s : Int) / 64 = ((s / 64 : Nat) : Int) := by omega
  generalize s / 64 = a at hq hm
  have ha : a ≤ 100000000 := by omega
  have hn0 : (m : Int) - (a : Int) ≤ 0 := by omega
  rcases zo with _ | ⟨b, zc⟩
  · have hres : NRes w none 0 (.returned (.slice none 0 0)) w := ⟨none, 0, fz, rfl, rfl, rfl, .inl rfl, Own.self _ _, Turn.refl _ _⟩
    replace hres := Lib.hid hres
    clear hz
    show Calls Tryz.prog 159 #[.slice none 0 0, .slice p m c, .int .u64 (s : Int)] w (NRes w none 0)
    go_enter Tryz.func159, Tryz.ntmps159
    go_wp2_with fail
    go_ret
    exact hres.out
  · have hres : NRes w (some (b, zc)) 0 (.returned (.slice (some ⟨b, 0, none⟩) 0 zc)) w := ⟨some (b, zc), 0, fz, rfl, ⟨Nat.zero_le _, hz.2⟩, rfl, .inl rfl, Own.self _ _, Turn.refl _ _⟩
    replace hres := Lib.hid hres
    have h1 := hz.1
    clear hz
    show Calls Tryz.prog 159 #[.slice (some ⟨b, 0, none⟩) mz zc, .slice p m c, .int .u64 (s : Int)] w (NRes w (some (b, zc)) 0)
    go_enter Tryz.func159, Tryz.ntmps159
    go_wp2_with fail
    go_ret
    exact hres.out
theorem rsh_any (zo xo : Option (Nat × Nat)) (mz m s : Nat) (fz x : Nat → Nat) (w : World) (hz : Nt w zo mz fz) (hx : Nt w xo m x) (hm : m ≤ 100000) (hx0 : Nrm x m) (hs : s ≤ 6400000) (h0 : s = 0 → zo = none) :
    Calls Tryz.prog 159 #[nv zo mz, nv xo m, .int .u64 (s : Int)] w (NRes w zo (vl x m / 2 ^ s)) := by
  rcases Nat.eq_zero_or_pos s with rfl | hs1
  · obtain rfl := h0 rfl
    have : vl x m / 2 ^ 0 = vl x m := by simp
    rw [this]
    exact rsh_none xo m x w hx hm hx0
  · by_cases hma : m ≤ s / 64
    · have : vl x m / 2 ^ s = 0 := by
        apply Nat.div_eq_of_lt
        have h1 := vl_lt hx.bd
        have e : (18446744073709551616 : Nat) = 2 ^ 64 := by decide
        rw [e, ← Nat.pow_mul] at h1
        exact Nat.lt_of_lt_of_le h1 (Nat.pow_le_pow_right (by omega) (by omega))
      rw [this]
      rcases xo with _ | ⟨b, c⟩
      · have : m = 0 := hx
        subst this
        exact rsh_out zo mz none 0 0 s fz w hz hs1 (by omega) hma
      · exact rsh_out zo mz _ m c s fz w hz hs1 (by omega) hma
    · rcases xo with _ | ⟨b, c⟩
      · have : m = 0 := hx; omega
      · rcases Nat.eq_zero_or_pos (s % 64) with h | h
        · exact rsh_words zo mz b c m s (s / 64) fz x w hz hx hm (by omega) (by omega) (by omega)
        · exact rsh_bits zo mz b c m s (s / 64) (s % 64) (64 - s % 64) fz x w hz hx hm (by omega) (by omega) h (by omega) (by omega)
end
section
open Go.RowKit
theorem vl_one (f : Nat → Nat) : vl f 1 = f 0 := by simp [vl]
theorem vl_head (f : Nat → Nat) (m : Nat) (hm : 1 ≤ m) : vl f m = f 0 + 18446744073709551616 * vl (fun i => f (1 + i)) (m - 1) := by
  obtain ⟨q, rfl⟩ : ∃ q, m = 1 + q := ⟨m - 1, by omega⟩
  rw [vl_add, vl_one, Nat.add_sub_cancel_left, Nat.pow_one]
set_option maxRecDepth 100000 in
set_option maxHeartbeats 1000000 in
theorem or_zero (xb xc m : Nat) (x : Nat → Nat) (q : Option Addr) (yc : Nat) (w : World) (hx : Nt w (some (xb, xc)) m x) (hx0 : Nrm x m) (hm : m ≤ 100000) :
    Calls Tryz.prog 156 #[.slice (some ⟨xb, 0, none⟩) m xc, .slice (some ⟨xb, 0, none⟩) m xc, .slice q 0 yc] w (NRes w (some (xb, xc)) (vl x m)) := by
  obtain ⟨w2, hcp, hr, hg⟩ := run_copy_wd w.drew 3 126 Tryz.underlying126 (zl := m) (zc := xc) (xl := m) (xc := xc) (hx.2.2.2.1.mono hx.1).drew (hx.2.2.2.1.mono hx.1).drew (Nat.min_self m).symm
  rw [Nat.zero_add] at hr
  replace hr := (Rw.refl xb 0 m w).drew.trans hr
  have hmx := hx.1
  have hcap := hx.2.1
  have hfin : NRes w (some (xb, xc)) (vl x m) (.returned (.slice (some ⟨xb, 0, none⟩) (nl x m) xc)) w2 := by
    refine ⟨some (xb, xc), nl x m, fun i => if i < m then x i else x i, rfl, ⟨Nat.le_trans (nl_le _ _) hmx, hx.2.1, hx.2.2.1, hx.2.2.2.1.ext hr hg hmx, hr.plain hx.2.2.2.2⟩, ?_, ?_, Own.self _ _, Turn.ofRw hr xc⟩
    · rw [vl_congr (g := x) (fun i _ => by split <;> rfl), vl_nl]
    · have : (fun i => if i < m then x i else x i) = x := by funext i; split <;> rfl
      rw [this]; exact nrm_nl x m
  have hnorm := norm_some xb xc m x w2 hmx hcap hg
  replace hfin := Lib.hid hfin
  clear hr hg hx hx0
  go_enter Tryz.func156, Tryz.ntmps156
  go_wp2_with (go_at_call 171; refine (make_old xb xc m m hmx hmx hcap _).mono ?_; rintro e w' ⟨rfl, rfl⟩)
  go_loop [10] (fun vi => vi = .int .i64 0) (fun _ => 0)
  case atStart => exact rfl
  case round =>
    subst hrel
    go_wp2_with fail
    go_region
    go_wp2_with (go_at_call 182; refine hnorm.mono ?_; rintro e w' ⟨rfl, rfl⟩)
    go_ret
    exact hfin.out
set_option maxRecDepth 100000 in
set_option maxHeartbeats 1000000 in
theorem or_nil (q : Option Addr) (yc : Nat) (w : World) : Calls Tryz.prog 156 #[.slice none 0 0, .slice none 0 0, .slice q 0 yc] w fun e w' => e = .returned (.slice none 0 0) ∧ w' = w.drew := by
  have hcp := copy_none w.drew 3 none none 0 0 0 0 rfl
  go_enter Tryz.func156, Tryz.ntmps156
  go_wp2_with (go_at_call 171; refine (make_nil _).mono ?_; rintro e w' ⟨rfl, rfl⟩)
  go_loop [10] (fun vi => vi = .int .i64 0) (fun _ => 0)
  case atStart => exact rfl
  case round =>
    subst hrel
    go_wp2_with fail
    go_region
    go_wp2_with (go_at_call 182; refine (norm_nil _).mono ?_; rintro e w' ⟨rfl, rfl⟩)
    go_ret
    exact ⟨rfl, rfl⟩
set_option maxRecDepth 100000 in
set_option maxHeartbeats 1000000 in
theorem or_into (xo : Option (Nat × Nat)) (fx : Nat → Nat) (yb yc d : Nat) (y : Nat → Nat) (w : World) (hx : Nt w xo 0 fx) (hyc : 1 ≤ yc) (hy : Wd w yb 0 1 y) (hyd : y 0 = d) :
    Calls Tryz.prog 156 #[nv xo 0, nv xo 0, .slice (some ⟨yb, 0, none⟩) 1 yc] w (NRes w xo d) := by
  have hmk : Calls Tryz.prog 171 #[nv xo 0, .int .i64 1] w _ := make_any xo 0 1 fx w hx (by omega) (by omega)
  have hl : ∃ p k, nv xo 0 = .slice p 0 k := by rcases xo with _ | ⟨b, c⟩ <;> exact ⟨_, _, rfl⟩
  obtain ⟨p, k, e⟩ := hl
  rw [e] at hmk ⊢
  clear e hx
  replace hy := Lib.hid hy
  replace hyd := Lib.hid hyd
  go_enter Tryz.func156, Tryz.ntmps156
  go_wp2_with (go_at_call 171; refine hmk.mono ?_; rintro e w1 ⟨zb, c, f, rfl, hroom⟩
               have hle := hroom.out.le
               have hcap := hroom.out.cap
               obtain ⟨w2, hcp, hr, hg⟩ := run_copy_wd w1.drew 3 126 Tryz.underlying126 (zl := 1) (zc := c) (xl := 1) (xc := yc) (hroom.out.wd.mono hle).drew (hy.out.still hroom.out.turn).drew (by rfl)
               rw [Nat.zero_add] at hr
               replace hr := Lib.hid ((Rw.refl zb 0 1 w1).drew.trans hr)
               replace hg := Lib.hid hg)
  go_loop [10] (fun vi => vi = .int .i64 0) (fun _ => 0)
  case atStart => exact rfl
  case round =>
    subst hrel
    go_wp2_with fail
    go_region
    have hfin := Lib.hid (hroom.out.res (v := d) (by omega) hr.out hg.out (Nat.le_refl _) (by rw [vl_one, hyd.out]))
    go_wp2_with (go_at_call 182; refine (norm_some zb c 1 _ _ hle hcap hg.out).mono ?_; rintro e w' ⟨rfl, rfl⟩)
    go_ret
    exact hfin.out
theorem or_word {p d : Nat} (hp : p % 1073741824 = 0) (hd : d < 1073741824) (hp2 : p < 18446744073709551616) : bits .or .u64 (p : Int) (d : Int) = ((p + d : Nat) : Int) ∧ p + d < 18446744073709551616 := by
  have e : p = p / 1073741824 * 2 ^ 30 := by omega
  refine ⟨?_, by omega⟩
  rw [u64_or_nat _ _ hp2 (by omega)]
  have h2 := or_add (p / 1073741824) d 30 (by omega)
  rw [← e] at h2
  rw [h2]
theorem vl_put0 {x : Nat → Nat} {v m : Nat} (hm : 1 ≤ m) : vl (fun j => if j = 0 then v else x j) m + x 0 = vl x m + v := by
  rw [vl_head _ m hm, vl_head x m hm]
  have e : vl (fun i => if 1 + i = 0 then v else x (1 + i)) (m - 1) = vl (fun i => x (1 + i)) (m - 1) := vl_congr fun i _ => by rw [if_neg (by omega)]
  rw [e, if_pos rfl]
  omega
set_option maxRecDepth 100000 in
set_option maxHeartbeats 1000000 in
theorem or_put (xb xc m yb yc d : Nat) (x y : Nat → Nat) (w : World) (hx : Nt w (some (xb, xc)) m x) (hm1 : 1 ≤ m) (hm : m ≤ 100000) (hx0 : Nrm x m) (hy : Wd w yb 0 1 y) (hyd : y 0 = d) (hp : x 0 % 1073741824 = 0) (hd : d < 1073741824) :
    Calls Tryz.prog 156 #[.slice (some ⟨xb, 0, none⟩) m xc, .slice (some ⟨xb, 0, none⟩) m xc, .slice (some ⟨yb, 0, none⟩) 1 yc] w (NRes w (some (xb, xc)) (vl x m + d)) := by
  have hmx := hx.1
  have hcap := hx.2.1
  have hw0 := hx.2.2.2.1 0 (by omega)
  rw [Nat.zero_add] at hw0
  obtain ⟨hor, hlt⟩ := or_word hp hd hw0.2.2
  have cx := hw0.1
  have fx := hw0.2.1
  have cy := (hy 0 (by omega)).1
  rw [Nat.zero_add, hyd] at cy
  have hput := (hx.2.2.2.1).put (k := 0) (by omega) hlt
  rw [Nat.zero_add] at hput
  have hr1 := ((Rw.refl xb 0 m w).set (j := 0) (Nat.zero_le _) (by omega) (.int .u64 ((x 0 + d : Nat) : Int))).drew
  -- the copy of the words above the lowest one, onto themselves
  have hcp : ∀ zo, (zo = 1 ∨ m = 1) → ∃ w2, (Builtin.copy_ #[126, 126] 3 #[.slice (some ⟨xb, zo, none⟩) (m - 1) (xc - 1), .slice (some ⟨xb, zo, none⟩) (m - 1) (xc - 1)]).run Tryz.prog ((w.setCell ⟨xb, 0, none⟩ (.int .u64 ((x 0 + d : Nat) : Int))).drew.drew) = .ok (.int .i64 ((m - 1 : Nat) : Int)) w2 ∧
      Rw xb 0 m w w2 ∧ Wd w2 xb 0 m (fun j => if j = 0 then x 0 + d else x j) := fun zo hzo => by
    by_cases h1 : m = 1
    · subst h1
      exact ⟨_, copy_none _ 3 _ _ 0 _ 0 _ rfl, hr1.drew, (hput.mono hmx).drew.drew⟩
    · have hzo : zo = 1 := hzo.resolve_right h1
      subst hzo
      have hs : Wd ((w.setCell ⟨xb, 0, none⟩ (.int .u64 ((x 0 + d : Nat) : Int))).drew.drew) xb 1 (m - 1) (fun i => if 1 + i = 0 then x 0 + d else x (1 + i)) := fun i hi => by
        have := hput (1 + i) (by omega)
        rw [Nat.zero_add] at this; exact this
      obtain ⟨w2, hc, hr, hg⟩ := run_copy_wd _ 3 126 Tryz.underlying126 (zl := m - 1) (zc := xc - 1) (xl := m - 1) (xc := xc - 1) hs hs (Nat.min_self _).symm
      refine ⟨w2, hc, hr1.drew.trans (hr.mono (Nat.zero_le _) (by omega)), fun i hi => ?_⟩
      rcases Nat.eq_zero_or_pos i with e | e
      · subst e
        have := (hput.mono hmx).drew.drew.rw hr (i := 0) (by omega) (fun _ => by omega)
        exact this
      · have := hg (i - 1) (by omega)
        simp only [show 1 + (i - 1) = i by omega] at this
        rw [Nat.zero_add]
        exact this
  have hend : ∀ w2, Rw xb 0 m w w2 → Wd w2 xb 0 m (fun j => if j = 0 then x 0 + d else x j) → NRes w (some (xb, xc)) (vl x m + d) (.returned (.slice (some ⟨xb, 0, none⟩) (nl (fun j => if j = 0 then x 0 + d else x j) m) xc)) w2 := fun w2 hr hg =>
    (show Room w (some (xb, xc)) m xb xc x w from ⟨hmx, hcap, hx.2.2.2.1, hx.2.2.2.2, Turn.refl _ _, .inl ⟨⟨xc, rfl⟩, rfl⟩⟩).res hm1 hr hg (Nat.le_refl _) (by have := vl_put0 (x := x) (v := x 0 + d) hm1; omega)
  replace hend := Lib.hid hend
  have hnorm : ∀ w2, Wd w2 xb 0 m (fun j => if j = 0 then x 0 + d else x j) → Calls Tryz.prog 182 #[.slice (some ⟨xb, 0, none⟩) m xc] w2 _ := fun w2 hg => norm_some xb xc m _ w2 hmx hcap hg
  replace hnorm := Lib.hid hnorm
  have m1 : 1 ≤ m := hm1
  clear hr1 hput hx hx0 hy hyd hw0 hp hd
  have hcase : ∃ zo, (zo = 1 ∨ m = 1) ∧ (xc = 1 ∧ m = 1 ∧ zo = 0 ∨ 1 < xc ∧ zo = 1) := by
    by_cases h : xc = 1
    · exact ⟨0, .inr (by omega), .inl ⟨h, by omega, rfl⟩⟩
    · exact ⟨1, .inl rfl, .inr ⟨by omega, rfl⟩⟩
  obtain ⟨zo, hz1, hz2⟩ := hcase
  obtain ⟨w2, hc, hr, hg⟩ := hcp zo hz1
  have hr := Lib.hid hr
  have hfin := Lib.hid (hend.out w2 hr.out hg)
  have hnn := hnorm.out w2 hg
  clear hcp hg hz1
  generalize hv : ((x 0 + d : Nat) : Int) = v at *
  replace hv := Lib.hid hv
  rcases hz2 with ⟨rfl, rfl, rfl⟩ | ⟨hxc, rfl⟩
  all_goals try simp only [Nat.sub_self, Int.natCast_zero] at hc
  all_goals
    go_enter Tryz.func156, Tryz.ntmps156
    go_wp2_with (go_at_call 171; refine (make_old xb _ _ _ hmx hmx hcap _).mono ?_; rintro e w' ⟨rfl, rfl⟩)
    go_loopw [10] (fun vi wr => (vi = .int .i64 0 ∧ wr = w) ∨ (vi = .int .i64 1 ∧ wr = (w.setCell ⟨xb, 0, none⟩ (.int .u64 v)).drew)) (fun vi _ => 1 - (intOf vi).toNat)
    case atStart => exact .inl ⟨rfl, rfl⟩
    case round =>
      rcases hrel with ⟨rfl, rfl⟩ | ⟨rfl, rfl⟩
      · go_wp2_with fail
        go_region
        all_goals go_wp2_with fail
        all_goals go_roundw
        case rel => exact .inr ⟨rfl, by trivial⟩
        case measure => simp [intOf]
      · go_wp2_with fail
        go_region
        go_wp2_with (go_at_call 182; refine hnn.mono ?_; rintro e w' ⟨rfl, rfl⟩)
        go_ret
        exact hfin.out
end
end Go.Proofs.YtllapbkoildfiaaGreatFmt
