/- The walk of subVW · Natural numbers of big: add · Natural numbers of big: the walk of add. -/
import Derived.Test.YtllapbkoildfiaaGreatFmtM08
set_option linter.all false
namespace Go.Proofs.YtllapbkoildfiaaGreatFmt
section
open Go.RowKit
def scr (x : Nat → Nat) (y : Nat) : Nat → Nat
  | 0 => y
  | k + 1 => if x k < scr x y k then 1 else 0
def sw (x : Nat → Nat) (y k : Nat) : Nat := (x k + 18446744073709551616 - scr x y k) % 18446744073709551616
theorem scr_lt {x : Nat → Nat} {y : Nat} (hy : y < 18446744073709551616) (k : Nat) : scr x y k < 18446744073709551616 := by
  cases k with
  | zero => exact hy
  | succ k => rw [scr]; split <;> omega
theorem vl_sw {x : Nat → Nat} {y n : Nat} (hy : y < 18446744073709551616) (hx : ∀ i, i < n → x i < 18446744073709551616) : vl (sw x y) n + y = vl x n + scr x y n * 18446744073709551616 ^ n := by
  induction n with
  | zero => simp [vl, scr]
  | succ n ih =>
    have ih := ih fun i hi => hx i (by omega)
    have h1 := hx n (by omega)
    have h2 := scr_lt (x := x) hy n
    rw [vl_succ, vl_succ, scr, Nat.pow_succ, Nat.mul_comm (18446744073709551616 ^ n) 18446744073709551616]
    have ea : sw x y n = (x n + 18446744073709551616 - scr x y n) % 18446744073709551616 := rfl
    rw [ea]
    generalize scr x y n = c at *
    generalize x n = a at *
    generalize vl (sw x y) n = u at *
    have e : (a + 18446744073709551616 - c) % 18446744073709551616 * 18446744073709551616 ^ n + c * 18446744073709551616 ^ n = a * 18446744073709551616 ^ n + (if a < c then 1 else 0) * (18446744073709551616 * 18446744073709551616 ^ n) := by
      rw [← Nat.mul_assoc, ← Nat.add_mul, ← Nat.add_mul]
      congr 1
      split <;> omega
    omega
theorem sw_lt (x : Nat → Nat) (y k : Nat) : sw x y k < 18446744073709551616 := Nat.mod_lt _ (show 0 < 18446744073709551616 by omega)
theorem scr_le {x : Nat → Nat} {y k : Nat} : scr x y (k + 1) ≤ 1 := by
  rw [scr]; split <;> omega
theorem scr_zero {x : Nat → Nat} {y k m : Nat} (h : scr x y k = 0) (hk : k ≤ m) : ∀ j, k ≤ j → j ≤ m → scr x y j = 0 := by
  intro j
  induction j with
  | zero => intro h1 _; obtain rfl : k = 0 := by omega
            exact h
  | succ j ih =>
    intro h1 h2
    rcases Nat.lt_or_ge j k with g | g
    · obtain rfl : k = j + 1 := by omega
      exact h
    · rw [scr, ih g (by omega), if_neg (Nat.not_lt_zero _)]
theorem sw_zero {x : Nat → Nat} {y k m : Nat} (h : scr x y k = 0) (hx : ∀ i, i < m → x i < 18446744073709551616) (hk : k ≤ m) : ∀ j, k ≤ j → j < m → sw x y j = x j := fun j h1 h2 => by
  unfold sw
  rw [scr_zero h hk j h1 (by omega)]
  have := hx j h2
  omega
def SwPost (zb zo n y : Nat) (x : Nat → Nat) (w : World) (e : Ending) (w' : World) : Prop :=
  e = .returned (.int .u64 ((scr x y n : Nat) : Int)) ∧ Rw zb zo (zo + n) w w' ∧ Wd w' zb zo n (sw x y)
structure SRel (zb zo : Nat) (x : Nat → Nat) (y : Nat) (w : World) (k : Nat) (wr : World) : Prop where
  rw : Rw zb zo (zo + k) w wr
  done : Wd wr zb zo k (sw x y)
  one : scr x y k = 1
theorem sw_put {zb zo k : Nat} {x : Nat → Nat} {y : Nat} {w wr : World} (hr : Rw zb zo (zo + k) w wr) (hd : Wd wr zb zo k (sw x y)) {u : Value} (hc : wr.cell? ⟨zb, zo + k, none⟩ = some u) (hf : wr.frozen? ⟨zb, zo + k, none⟩ = false)
    {v : Int} (hv : v = ((sw x y k : Nat) : Int)) : Rw zb zo (zo + (k + 1)) w (wr.setCell ⟨zb, zo + k, none⟩ (.int .u64 v)) ∧ Wd (wr.setCell ⟨zb, zo + k, none⟩ (.int .u64 v)) zb zo (k + 1) (sw x y) := by
  subst hv
  refine ⟨(hr.mono (Nat.le_refl _) (by omega)).set (by omega) (by omega) _, (hd.snoc hc hf (sw_lt _ _ _)).congr fun i hi => ?_⟩
  split
  · next e => subst e; rfl
  · rfl
set_option maxHeartbeats 1000000 in
theorem subVW_same (zb zo zc xc n y : Nat) (x : Nat → Nat) (w : World) (hn : n + 1 ≤ 1000000000) (hx : Wd w zb zo (n + 1) x) (hy : y < 18446744073709551616) :
    Calls Tryz.prog 184 #[.slice (some ⟨zb, zo, none⟩) (n + 1) zc, .slice (some ⟨zb, zo, none⟩) (n + 1) xc, .int .u64 (y : Int)] w (SwPost zb zo (n + 1) y x w) := by
  have h0 := hx 0 (by omega)
  rw [Nat.add_zero] at h0
  have c0 := h0.1
  have f0 := h0.2.1
  have ca := sub_any (x 0) y 0 (by omega)
  have hs : sw x y 0 = (x 0 + 18446744073709551616 - y - 0) % 18446744073709551616 := rfl
  have hcr : scr x y 1 = (if x 0 < y + 0 then 1 else 0) := rfl
  have hle : scr x y 1 ≤ 1 := scr_le
  rw [← hs, ← hcr] at ca
  have hput := sw_put (x := x) (y := y) (w := w) (wr := w) (k := 0) (u := .int .u64 (x 0 : Nat)) (Rw.refl zb zo _ w) (fun _ h => absurd h (Nat.not_lt_zero _)) c0 f0 rfl
  clear h0 hs hcr
  have hbd : ∀ i, i < n + 1 → x i < 18446744073709551616 := fun i hi => (hx i hi).2.2
  have hput := Lib.hid hput
  have hbd := Lib.hid hbd
  have go_on : ∀ k w' w2, w2 = w' → Rw zb zo (zo + k) w w' → Wd w' zb zo k (sw x y) → scr x y k = 0 → k ≤ n + 1 → SwPost zb zo (n + 1) y x w (.returned (.int .u64 0)) w2 := fun k w' w2 e hr hd h0 hk => by
    subst e
    refine ⟨by rw [scr_zero h0 hk (n + 1) hk (Nat.le_refl _)]; rfl, hr.mono (Nat.le_refl _) (by omega), fun i hi => ?_⟩
    rcases Nat.lt_or_ge i k with g | g
    · exact hd i g
    · rw [sw_zero h0 hbd.out hk i g hi]
      exact hx.rw hr hi (fun _ => by omega)
  have go_on := Lib.hid go_on
  by_cases h1 : scr x y 1 = 0
  · rw [h1] at ca
    have h1 := Lib.hid h1
    clear hle hx
    generalize sw x y 0 = v0 at ca hput
    have ca : ∀ w, Calls Tryz.prog 185 #[.int .u64 (x 0 : Nat), .int .u64 y, .int .u64 0] w fun e w' => e = .returned (.tuple #[.int .u64 (v0 : Nat), .int .u64 0]) ∧ w = w' := ca
    have hp := ptr_neq_same 221 195 Tryz.underlying221 (by kernel_rfl) ⟨zb, zo, none⟩
    go_enter Tryz.func184, Tryz.ntmps184
    go_wp2_with (go_at_call 185; refine (ca _).mono ?_; rintro e w' ⟨rfl, rfl⟩)
    go_region
    all_goals go_wp2
    all_goals go_ret
    exact go_on.out 1 _ _ rfl hput.out.1.drew hput.out.2.drew h1.out (by omega)
  · have h1 : scr x y 1 = 1 := by omega
    rw [h1] at ca
    have h1 := Lib.hid h1
    clear hle
    generalize sw x y 0 = v0 at ca hput
    have ca : ∀ w, Calls Tryz.prog 185 #[.int .u64 (x 0 : Nat), .int .u64 y, .int .u64 0] w fun e w' => e = .returned (.tuple #[.int .u64 (v0 : Nat), .int .u64 1]) ∧ w = w' := ca
    have hp := ptr_neq_same 221 195 Tryz.underlying221 (by kernel_rfl) ⟨zb, zo, none⟩
    go_enter Tryz.func184, Tryz.ntmps184
    go_wp2_with (go_at_call 185; refine (ca _).mono ?_; rintro e w' ⟨rfl, rfl⟩)
    go_loopw [9] (fun vi wr => ∃ k : Nat, k ≤ n ∧ vi = .int .i64 ((k : Int) + 1) ∧ SRel zb zo x y w (k + 1) wr) (fun vi _ => n + 1 - (intOf vi).toNat)
    case atStart => exact ⟨0, Nat.zero_le _, rfl, hput.out.1, hput.out.2, h1.out⟩
    case round =>
      obtain ⟨k, hk, rfl, hrel⟩ := hrel
      by_cases hlt : k < n
      · have ck := hx.rw hrel.rw (i := k + 1) (by omega) (fun _ => by omega)
        have c1 := ck.1
        have c2 := ck.2.1
        have c3 := ck.2.2
        clear ck
        by_cases hm : x (k + 1) = 0
        · have hput := sw_put hrel.rw hrel.done c1 c2 (v := 18446744073709551615) (by
            show _ = (((x (k + 1) + 18446744073709551616 - scr x y (k + 1)) % 18446744073709551616 : Nat) : Int)
            rw [hrel.one, hm]; rfl)
          have hone : scr x y (k + 1 + 1) = 1 := by rw [scr, hrel.one, hm]; rfl
          have hb : ((x (k + 1) : Int) == 0) = true := by rw [hm]; rfl
          have hput := Lib.hid hput
          have hone := Lib.hid hone
          have hm := Lib.hid hm
          clear hrel
          go_wp2
          all_goals go_roundw
          case rel => exact ⟨k + 1, by omega, by go_num, hput.out.1, hput.out.2, hone.out⟩
          case measure => simp [intOf]; omega
        · have hput := sw_put hrel.rw hrel.done c1 c2 (v := (x (k + 1) : Int) - 1) (by
            show _ = (((x (k + 1) + 18446744073709551616 - scr x y (k + 1)) % 18446744073709551616 : Nat) : Int)
            rw [hrel.one]; omega)
          have hzero : scr x y (k + 1 + 1) = 0 := by rw [scr, hrel.one, if_neg (by omega)]
          have hput := Lib.hid hput
          have hzero := Lib.hid hzero
          have hb : ((x (k + 1) : Int) == 0) = false := by
            cases g : ((x (k + 1) : Int) == 0) with
            | false => rfl
            | true => exact absurd (by have : (x (k + 1) : Int) = 0 := by simpa using g
                                       omega) hm
          have hm' : 1 ≤ x (k + 1) := by omega
          clear hrel hm
          go_wp2
          go_region
          all_goals go_wp2
          all_goals go_ret
          exact go_on.out (k + 1 + 1) _ _ rfl hput.out.1.drew hput.out.2.drew hzero.out (by omega)
      · obtain rfl : k = n := by omega
        have hrel := Lib.hid hrel
        go_wp2
        go_ret
        exact ⟨by rw [hrel.out.one]; rfl, hrel.out.rw, hrel.out.done⟩
theorem sw_copy {zb zo xb xo n k y : Nat} {x f : Nat → Nat} {w wr : World} (hk : k ≤ n) (hr : Rw zb zo (zo + k) w wr) (hd : Wd wr zb zo k (sw x y)) (h0 : scr x y k = 0) (hx : Wd w xb xo n x) (hz : Wd w zb zo n f) (hne : xb ≠ zb) (ty : TypeId) {zo' zc xo' xc : Nat} (hxo : xo' = xo + k ∨ n - k = 0) (hzo : zo' = zo + k ∨ n - k = 0) :
    (Builtin.copy_ #[125, 125] ty #[.slice (some ⟨zb, zo', none⟩) (n - k) zc, .slice (some ⟨xb, xo', none⟩) (n - k) xc]).run Tryz.prog wr = .ok (.int .i64 ((n - k : Nat) : Int)) (copied wr zb zo' (n - k) (fun i => x (k + i))) ∧
    Rw zb zo (zo + n) w (copied wr zb zo' (n - k) (fun i => x (k + i))) ∧ Wd (copied wr zb zo' (n - k) (fun i => x (k + i))) zb zo n (sw x y) := by
  by_cases e0 : n - k = 0
  · obtain rfl : k = n := by omega
    have ec : copied wr zb zo' (k - k) (fun i => x (k + i)) = wr := by rw [e0]; rfl
    rw [ec, e0]
    exact ⟨run_copy_none wr 125 125 ty 195 _ _ 0 zc 0 xc Tryz.underlying125 (by kernel_rfl) rfl, hr, hd⟩
  · have hxo : xo' = xo + k := hxo.resolve_right e0
    have hzo : zo' = zo + k := hzo.resolve_right e0
    subst hxo hzo
    have hx' : Wd wr xb (xo + k) (n - k) (fun i => x (k + i)) := (hx.turn hr.turn hne).sub (by omega)
    have hz' : Wd wr zb (zo + k) (n - k) (fun i => f (k + i)) := fun i hi => by
      have := hz.rw hr (i := k + i) (by omega) (fun _ => by omega)
      rw [← Nat.add_assoc] at this; exact this
    obtain ⟨hc, h1, h2⟩ := run_copy_wdc wr ty 125 Tryz.underlying125 (zl := n - k) (zc := zc) (xl := n - k) (xc := xc) hz' hx' (Nat.min_self _).symm
    refine ⟨hc, (hr.mono (Nat.le_refl _) (by omega)).trans (h1.mono (by omega) (by omega)), fun i hi => ?_⟩
    rcases Nat.lt_or_ge i k with g | g
    · exact hd.rw h1 g (fun _ => by omega)
    · have := h2 (i - k) (by omega)
      rw [sw_zero h0 (fun j hj => (hx j hj).2.2) hk i g hi]
      simp only [show zo + k + (i - k) = zo + i by omega, show k + (i - k) = i by omega] at this
      exact this
set_option maxRecDepth 100000 in
set_option maxHeartbeats 1000000 in
theorem subVW_diff (zb zo zc xb xo xc n y : Nat) (f x : Nat → Nat) (w : World) (hn : n + 1 ≤ 1000000000) (hx : Wd w xb xo (n + 1) x) (hz : Wd w zb zo (n + 1) f) (hne : xb ≠ zb) (hzc : n + 1 ≤ zc) (hxc : n + 1 ≤ xc) (hpz : Plain w zb) (hpx : Plain w xb) (hy : y < 18446744073709551616) :
    Calls Tryz.prog 184 #[.slice (some ⟨zb, zo, none⟩) (n + 1) zc, .slice (some ⟨xb, xo, none⟩) (n + 1) xc, .int .u64 (y : Int)] w (SwPost zb zo (n + 1) y x w) := by
  have h0 := hx 0 (by omega)
  have z0 := hz 0 (by omega)
  rw [Nat.add_zero] at h0 z0
  have c0 := h0.1
  have f0 := z0.2.1
  have cz0 := z0.1
  have ca := sub_any (x 0) y 0 (by omega)
  have hs : sw x y 0 = (x 0 + 18446744073709551616 - y - 0) % 18446744073709551616 := rfl
  have hcr : scr x y 1 = (if x 0 < y + 0 then 1 else 0) := rfl
  have hle : scr x y 1 ≤ 1 := scr_le
  rw [← hs, ← hcr] at ca
  have hput := sw_put (x := x) (y := y) (w := w) (wr := w) (k := 0) (u := .int .u64 (f 0 : Nat)) (Rw.refl zb zo _ w) (fun _ h => absurd h (Nat.not_lt_zero _)) cz0 f0 rfl
  clear h0 z0 hs hcr
  have hput := Lib.hid hput
  have hne' := Lib.hid hne
  have hxc2 : xc = 1 ∨ 1 < xc := by omega
  have hbd : ∀ i, i < n + 1 → x i < 18446744073709551616 := fun i hi => (hx i hi).2.2
  have hbd := Lib.hid hbd
  by_cases h1 : scr x y 1 = 0
  · rw [h1] at ca
    have hcp := fun (xo' zo' xc' : Nat) (h : xo' = xo + 1 ∨ n + 1 - 1 = 0) (h' : zo' = zo + 1 ∨ n + 1 - 1 = 0) => sw_copy (k := 1) (zc := zc - 1) (xc := xc') (by omega) hput.out.1.drew.drew hput.out.2.drew.drew h1 hx hz hne 3 h h'
    have hp := fun (m : Nat) => ptr_neq_other 221 195 Tryz.underlying221 (by kernel_rfl) (a := ⟨zb, zo, none⟩) (b := ⟨xb, xo, none⟩) (((w.setCell ⟨zb, zo, none⟩ (.int .u64 ((sw x y 0 : Nat) : Int))).drew)) (fun e => hne e.symm) (hput.out.1.drew.plain hpz) (hput.out.1.drew.plain hpx)
    have hp := hp 0
    have h1 := Lib.hid h1
    clear hle hx hz hpz hpx
    generalize hv0 : sw x y 0 = v0 at ca hcp hp
    have hv0 := Lib.hid hv0
    have ca : ∀ w, Calls Tryz.prog 185 #[.int .u64 (x 0 : Nat), .int .u64 y, .int .u64 0] w fun e w' => e = .returned (.tuple #[.int .u64 (v0 : Nat), .int .u64 0]) ∧ w = w' := ca
    have key : ∀ xo' zo' w2, (Builtin.copy_ #[125, 125] 3 #[.slice (some ⟨zb, zo', none⟩) n (zc - 1), .slice (some ⟨xb, xo', none⟩) n (xc - 1)]).run Tryz.prog ((w.setCell ⟨zb, zo, none⟩ (.int .u64 (v0 : Int))).drew.drew) = .ok (.int .i64 (n : Int)) w2 →
        Hid (Rw zb zo (zo + (n + 1)) w w2 ∧ Wd w2 zb zo (n + 1) (sw x y)) → (xc = 1 ∧ n = 0 ∧ xo' = xo ∨ 1 < xc ∧ xo' = xo + 1) → (zc = 1 ∧ n = 0 ∧ zo' = zo ∨ 1 < zc ∧ zo' = zo + 1) →
        Calls Tryz.prog 184 #[.slice (some ⟨zb, zo, none⟩) (n + 1) zc, .slice (some ⟨xb, xo, none⟩) (n + 1) xc, .int .u64 (y : Int)] w (SwPost zb zo (n + 1) y x w) := by
      intro xo' zo' w2 hc hres hcase hcase'
      have fin : Hid (SwPost zb zo (n + 1) y x w (.returned (.int .u64 0)) w2) := Lib.hid ⟨by rw [scr_zero h1.out (by omega) (n + 1) (by omega) (Nat.le_refl _)]; rfl, hres.out.1, hres.out.2⟩
      clear hcp hxc2 hput hne' hres hbd
      rcases hcase with ⟨rfl, rfl, rfl⟩ | ⟨e1, rfl⟩
      all_goals
        first
        | (rcases hcase' with ⟨rfl, rfl, rfl⟩ | ⟨e2, rfl⟩)
        | (rcases hcase' with ⟨rfl, _, rfl⟩ | ⟨e2, rfl⟩)
      all_goals try simp only [Nat.sub_self, Int.natCast_zero] at hc
      all_goals
        go_enter Tryz.func184, Tryz.ntmps184
        go_wp2_with (go_at_call 185; refine (ca _).mono ?_; rintro e w' ⟨rfl, rfl⟩)
        go_region
        all_goals go_wp2
        go_region
        all_goals go_wp2
        all_goals go_ret
        all_goals exact fin.out
    have hzc2 : zc = 1 ∨ 1 < zc := by omega
    rcases hxc2 with e | e <;> rcases hzc2 with e' | e'
    · exact key xo zo _ (hcp xo zo _ (.inr (by omega)) (.inr (by omega))).1 (Lib.hid ⟨(hcp xo zo (xc - 1) (.inr (by omega)) (.inr (by omega))).2.1, (hcp xo zo (xc - 1) (.inr (by omega)) (.inr (by omega))).2.2⟩) (.inl ⟨e, by omega, rfl⟩) (.inl ⟨e', by omega, rfl⟩)
    · exact key xo (zo + 1) _ (hcp xo (zo + 1) _ (.inr (by omega)) (.inl rfl)).1 (Lib.hid ⟨(hcp xo (zo + 1) (xc - 1) (.inr (by omega)) (.inl rfl)).2.1, (hcp xo (zo + 1) (xc - 1) (.inr (by omega)) (.inl rfl)).2.2⟩) (.inl ⟨e, by omega, rfl⟩) (.inr ⟨e', rfl⟩)
    · exact key (xo + 1) zo _ (hcp (xo + 1) zo _ (.inl rfl) (.inr (by omega))).1 (Lib.hid ⟨(hcp (xo + 1) zo (xc - 1) (.inl rfl) (.inr (by omega))).2.1, (hcp (xo + 1) zo (xc - 1) (.inl rfl) (.inr (by omega))).2.2⟩) (.inr ⟨e, rfl⟩) (.inl ⟨e', by omega, rfl⟩)
    · exact key (xo + 1) (zo + 1) _ (hcp (xo + 1) (zo + 1) _ (.inl rfl) (.inl rfl)).1 (Lib.hid ⟨(hcp (xo + 1) (zo + 1) (xc - 1) (.inl rfl) (.inl rfl)).2.1, (hcp (xo + 1) (zo + 1) (xc - 1) (.inl rfl) (.inl rfl)).2.2⟩) (.inr ⟨e, rfl⟩) (.inr ⟨e', rfl⟩)
  · have h1 : scr x y 1 = 1 := by omega
    rw [h1] at ca
    have h1 := Lib.hid h1
    clear hle
    generalize hv0 : sw x y 0 = v0 at ca hput
    have ca : ∀ w, Calls Tryz.prog 185 #[.int .u64 (x 0 : Nat), .int .u64 y, .int .u64 0] w fun e w' => e = .returned (.tuple #[.int .u64 (v0 : Nat), .int .u64 1]) ∧ w = w' := ca
    go_enter Tryz.func184, Tryz.ntmps184
    go_wp2_with (go_at_call 185; refine (ca _).mono ?_; rintro e w' ⟨rfl, rfl⟩)
    go_loopw [9] (fun vi wr => ∃ k : Nat, k ≤ n ∧ vi = .int .i64 ((k : Int) + 1) ∧ SRel zb zo x y w (k + 1) wr) (fun vi _ => n + 1 - (intOf vi).toNat)
    case atStart => exact ⟨0, Nat.zero_le _, rfl, hput.out.1, hput.out.2, h1.out⟩
    case round =>
      clear ca c0 f0 cz0 hput hv0
      obtain ⟨k, hk, rfl, hrel⟩ := hrel
      by_cases hlt : k < n
      · have c1 := (hx.rw hrel.rw (i := k + 1) (by omega) (fun e => absurd e hne)).1
        have c3 := hbd.out (k + 1) (by omega)
        have cz := hz.rw hrel.rw (i := k + 1) (by omega) (fun _ => by omega)
        have cz1 := cz.1
        have cz2 := cz.2.1
        clear cz
        by_cases hm : x (k + 1) = 0
        · have hput := sw_put hrel.rw hrel.done cz1 cz2 (v := 18446744073709551615) (by
            show _ = (((x (k + 1) + 18446744073709551616 - scr x y (k + 1)) % 18446744073709551616 : Nat) : Int)
            rw [hrel.one, hm]; rfl)
          have hone : scr x y (k + 1 + 1) = 1 := by rw [scr, hrel.one, hm]; rfl
          have hb : ((x (k + 1) : Int) == 0) = true := by rw [hm]; rfl
          have hput := Lib.hid hput
          have hone := Lib.hid hone
          have hm := Lib.hid hm
          clear hrel
          go_wp2
          all_goals go_roundw
          case rel => exact ⟨k + 1, by omega, by go_num, hput.out.1, hput.out.2, hone.out⟩
          case measure => simp [intOf]; omega
        · have hput := sw_put hrel.rw hrel.done cz1 cz2 (v := (x (k + 1) : Int) - 1) (by
            show _ = (((x (k + 1) + 18446744073709551616 - scr x y (k + 1)) % 18446744073709551616 : Nat) : Int)
            rw [hrel.one]; omega)
          have hzero : scr x y (k + 1 + 1) = 0 := by rw [scr, hrel.one, if_neg (by omega)]
          have hb : ((x (k + 1) : Int) == 0) = false := by
            cases g : ((x (k + 1) : Int) == 0) with
            | false => rfl
            | true => exact absurd (by have : (x (k + 1) : Int) = 0 := by simpa using g
                                       omega) hm
          have hcp := fun (xo' zo' : Nat) (h : xo' = xo + (k + 1 + 1) ∨ n + 1 - (k + 1 + 1) = 0) (h' : zo' = zo + (k + 1 + 1) ∨ n + 1 - (k + 1 + 1) = 0) => sw_copy (k := k + 1 + 1) (zc := zc - (k + 1 + 1)) (xc := xc - (k + 1 + 1)) (by omega) hput.1.drew.drew hput.2.drew.drew hzero hx hz hne 3 h h'
          have hp := ptr_neq_other 221 195 Tryz.underlying221 (by kernel_rfl) (a := ⟨zb, zo, none⟩) (b := ⟨xb, xo, none⟩) (((wr.setCell ⟨zb, zo + (k + 1), none⟩ (.int .u64 ((x (k + 1) : Int) - 1))).drew)) (fun e => hne e.symm) (hput.1.drew.plain hpz) (hput.1.drew.plain hpx)
          have hput := Lib.hid hput
          have hzero := Lib.hid hzero
          have hm' : 1 ≤ x (k + 1) := by omega
          clear hrel hm
          have fin : ∀ w2, Hid (Rw zb zo (zo + (n + 1)) w w2 ∧ Wd w2 zb zo (n + 1) (sw x y)) → SwPost zb zo (n + 1) y x w (.returned (.int .u64 0)) w2 := fun w2 h => ⟨by rw [scr_zero hzero.out (by omega) (n + 1) (by omega) (Nat.le_refl _)]; rfl, h.out.1, h.out.2⟩
          have fin := Lib.hid fin
          have hcp := Lib.hid hcp
          have hxc3 : ∃ xo', (xo' = xo + (k + 1 + 1) ∨ n + 1 - (k + 1 + 1) = 0) ∧ (xc = k + 1 + 1 ∧ n = k + 1 ∧ xo' = xo ∨ k + 1 + 1 < xc ∧ xo' = xo + (k + 1 + 1)) := by
            by_cases e : xc = k + 1 + 1
            · exact ⟨xo, .inr (by omega), .inl ⟨e, by omega, rfl⟩⟩
            · exact ⟨_, .inl rfl, .inr ⟨by omega, rfl⟩⟩
          have hzc3 : ∃ zo', (zo' = zo + (k + 1 + 1) ∨ n + 1 - (k + 1 + 1) = 0) ∧ (zc = k + 1 + 1 ∧ n = k + 1 ∧ zo' = zo ∨ k + 1 + 1 < zc ∧ zo' = zo + (k + 1 + 1)) := by
            by_cases e : zc = k + 1 + 1
            · exact ⟨zo, .inr (by omega), .inl ⟨e, by omega, rfl⟩⟩
            · exact ⟨_, .inl rfl, .inr ⟨by omega, rfl⟩⟩
          obtain ⟨xo', hxo', hcx⟩ := hxc3
          obtain ⟨zo', hzo', hcz⟩ := hzc3
          have hcq := (hcp.out xo' zo' hxo' hzo').1
          have hres := Lib.hid (fin.out _ (Lib.hid ⟨(hcp.out xo' zo' hxo' hzo').2.1, (hcp.out xo' zo' hxo' hzo').2.2⟩))
          generalize copied (((wr.setCell ⟨zb, zo + (k + 1), none⟩ (.int .u64 ((x (k + 1) : Int) - 1))).drew).drew) zb zo' (n + 1 - (k + 1 + 1)) (fun i => x (k + 1 + 1 + i)) = w9 at hcq hres
          rw [show n + 1 - (k + 1 + 1) = n - (k + 1) by omega] at hcq
          clear hxo' hzo' hcp fin
          rcases hcx with ⟨rfl, rfl, rfl⟩ | ⟨e1, rfl⟩
          all_goals
            first
            | (rcases hcz with ⟨rfl, rfl, rfl⟩ | ⟨e2, rfl⟩)
            | (rcases hcz with ⟨rfl, _, rfl⟩ | ⟨e2, rfl⟩)
          all_goals try simp only [Nat.sub_self, Int.natCast_zero] at hcq
          all_goals
            go_wp2
            go_region
            all_goals go_wp2
            go_region
            all_goals go_wp2
            all_goals go_ret
            all_goals exact hres.out
      · obtain rfl : k = n := by omega
        have hrel := Lib.hid hrel
        go_wp2
        go_ret
        exact ⟨by rw [hrel.out.one]; rfl, hrel.out.rw, hrel.out.done⟩
end
section
open Go.RowKit
theorem tw186 : ∀ args w, (callFunc 186 args).run Tryz.prog w = .ok (.enter 86 args) w := run_callFunc_twin (twin := "math/big.addVV_g") Tryz.func186 (by kernel_rfl) (by kernel_rfl) (by kernel_rfl) (by kernel_rfl) Tryz.func86 (by kernel_rfl) (by kernel_rfl) (by kernel_rfl)
theorem tw183 : ∀ args w, (callFunc 183 args).run Tryz.prog w = .ok (.enter 87 args) w := run_callFunc_twin (twin := "math/big.subVV_g") Tryz.func183 (by kernel_rfl) (by kernel_rfl) (by kernel_rfl) (by kernel_rfl) Tryz.func87 (by kernel_rfl) (by kernel_rfl) (by kernel_rfl)
theorem tw173 : ∀ args w, (callFunc 173 args).run Tryz.prog w = .ok (.enter 88 args) w := run_callFunc_twin (twin := "math/big.lshVU_g") Tryz.func173 (by kernel_rfl) (by kernel_rfl) (by kernel_rfl) (by kernel_rfl) Tryz.func88 (by kernel_rfl) (by kernel_rfl) (by kernel_rfl)
theorem tw190 : ∀ args w, (callFunc 190 args).run Tryz.prog w = .ok (.enter 89 args) w := run_callFunc_twin (twin := "math/big.rshVU_g") Tryz.func190 (by kernel_rfl) (by kernel_rfl) (by kernel_rfl) (by kernel_rfl) Tryz.func89 (by kernel_rfl) (by kernel_rfl) (by kernel_rfl)
theorem tw227 : ∀ args w, (callFunc 227 args).run Tryz.prog w = .ok (.enter 90 args) w := run_callFunc_twin (twin := "math/big.mulAddVWW_g") Tryz.func227 (by kernel_rfl) (by kernel_rfl) (by kernel_rfl) (by kernel_rfl) Tryz.func90 (by kernel_rfl) (by kernel_rfl) (by kernel_rfl)
theorem tw221 : ∀ args w, (callFunc 221 args).run Tryz.prog w = .ok (.enter 91 args) w := run_callFunc_twin (twin := "math/big.addMulVVWW_g") Tryz.func221 (by kernel_rfl) (by kernel_rfl) (by kernel_rfl) (by kernel_rfl) Tryz.func91 (by kernel_rfl) (by kernel_rfl) (by kernel_rfl)
theorem addVW_any (zb zo zc xb xo xc n y : Nat) (f x : Nat → Nat) (w : World) (hn : n + 1 ≤ 1000000000) (hx : Wd w xb xo (n + 1) x) (hz : Wd w zb zo (n + 1) f) (hne : xb = zb → xo = zo) (hzc : n + 1 ≤ zc) (hxc : n + 1 ≤ xc) (hpz : Plain w zb) (hpx : Plain w xb) (hy : y < 18446744073709551616) :
    Calls Tryz.prog 187 #[.slice (some ⟨zb, zo, none⟩) (n + 1) zc, .slice (some ⟨xb, xo, none⟩) (n + 1) xc, .int .u64 (y : Int)] w (AwPost zb zo (n + 1) y x w) := by
  by_cases e : xb = zb
  · obtain rfl := hne e
    subst e
    exact addVW_same _ _ _ _ _ _ _ _ hn hx hy
  · exact addVW_diff _ _ _ _ _ _ _ _ _ _ _ hn hx hz e hzc hxc hpz hpx hy
theorem subVW_any (zb zo zc xb xo xc n y : Nat) (f x : Nat → Nat) (w : World) (hn : n + 1 ≤ 1000000000) (hx : Wd w xb xo (n + 1) x) (hz : Wd w zb zo (n + 1) f) (hne : xb = zb → xo = zo) (hzc : n + 1 ≤ zc) (hxc : n + 1 ≤ xc) (hpz : Plain w zb) (hpx : Plain w xb) (hy : y < 18446744073709551616) :
    Calls Tryz.prog 184 #[.slice (some ⟨zb, zo, none⟩) (n + 1) zc, .slice (some ⟨xb, xo, none⟩) (n + 1) xc, .int .u64 (y : Int)] w (SwPost zb zo (n + 1) y x w) := by
  by_cases e : xb = zb
  · obtain rfl := hne e
    subst e
    exact subVW_same _ _ _ _ _ _ _ _ hn hx hy
  · exact subVW_diff _ _ _ _ _ _ _ _ _ _ _ hn hx hz e hzc hxc hpz hpx hy
structure Room (w : World) (zo : Option (Nat × Nat)) (n zb c : Nat) (f : Nat → Nat) (w' : World) : Prop where
  le : n ≤ c
  cap : c ≤ 100000000
  wd : Wd w' zb 0 c f
  pl : Plain w' zb
  turn : Turn (fun _ => False) w w'
  own : InB zo zb ∧ zo = some (zb, c) ∨ w.heap.size ≤ zb
theorem make_any (zo : Option (Nat × Nat)) (m n : Nat) (fz : Nat → Nat) (w : World) (hz : Nt w zo m fz) (hn : 1 ≤ n) (hn2 : n ≤ 1000000) :
    Calls Tryz.prog 171 #[nv zo m, .int .i64 (n : Int)] w fun e w' => ∃ zb c f, e = .returned (.slice (some ⟨zb, 0, none⟩) n c) ∧ Hid (Room w zo n zb c f w') := by
  by_cases h : ∃ b c, zo = some (b, c) ∧ n ≤ c
  · obtain ⟨b, c, rfl, hc⟩ := h
    exact (make_old b c m n hc hz.1 hz.2.1 w).mono fun e w' ⟨he, hw⟩ => ⟨b, c, fz, he, by subst hw; exact ⟨hc, hz.2.1, hz.2.2.2.1, hz.2.2.2.2, Turn.refl _ _, .inl ⟨⟨c, rfl⟩, rfl⟩⟩⟩
  · exact (make_new zo m n hn hn2 (fun b c e => by subst e; exact ⟨hz.1, Nat.lt_of_not_le fun g => h ⟨b, c, rfl, g⟩⟩) w).mono fun e w' ⟨c, he, h1, h2, hw⟩ =>
      ⟨w.heap.size, c, fun _ => 0, he, by subst hw; exact ⟨h1, by omega, wd_made w c, Plain.made _ _, (Turn.refl _ _).alloc _, .inr (Nat.le_refl _)⟩⟩
theorem Room.drewN {w : World} {zo : Option (Nat × Nat)} {n zb c : Nat} {f : Nat → Nat} {w' : World} {k : Nat} (h : Room (w.drewN k) zo n zb c f w') : Room w zo n zb c f w' :=
  ⟨h.le, h.cap, h.wd, h.pl, ⟨h.turn.os, h.turn.tape, h.turn.output, h.turn.size, h.turn.block⟩, h.own⟩
theorem Room.fresh {w : World} {zo : Option (Nat × Nat)} {n zb c : Nat} {f : Nat → Nat} {w' : World} (h : Room w zo n zb c f w') (hz : zo = none) : w.heap.size ≤ zb := by
  rcases h.own with g | g
  · rw [hz] at g; cases g.2
  · exact g
theorem Room.end {w : World} {zo : Option (Nat × Nat)} {n zb c : Nat} {f : Nat → Nat} {w' w2 : World} (h : Room w zo n zb c f w') (t : Turn (· = zb) w' w2) : Turn (InB zo) w w2 :=
  (h.turn.mono (S' := InB zo) fun _ _ g => g.elim).trans t fun k hk e => by
    subst e
    rcases h.own with g | g
    · exact g.1
    · omega
theorem Room.owned {w : World} {zo : Option (Nat × Nat)} {n zb c : Nat} {f : Nat → Nat} {w' : World} (h : Room w zo n zb c f w') : Own w zo (some (zb, c)) := fun b' c' e => by
  injection e with e; injection e with e1 e2; subst e1
  rcases h.own with g | g
  · exact .inl g.1
  · exact .inr g
theorem Room.res {w : World} {zo : Option (Nat × Nat)} {n zb c : Nat} {f : Nat → Nat} {w' w2 : World} (h : Room w zo n zb c f w') (hn : 1 ≤ n) {lo hi : Nat} (r : Rw zb lo hi w' w2) {g : Nat → Nat} (hg : Wd w2 zb 0 n g) (hhi : hi ≤ n) {v : Nat} (hv : vl g n = v) :
    NRes w zo v (.returned (.slice (some ⟨zb, 0, none⟩) (nl g n) c)) w2 := by
  have hle := h.le
  have r' : Rw zb 0 n w' w2 := r.mono (Nat.zero_le _) hhi
  refine ⟨some (zb, c), nl g n, fun i => if i < n then g i else f i, rfl, ⟨Nat.le_trans (nl_le g n) h.le, h.cap, by omega, h.wd.ext r' hg h.le, r.plain h.pl⟩, ?_, ?_, h.owned, h.end r.turn⟩
  · rw [vl_congr (g := g), vl_nl, hv]
    intro i hi
    have := nl_le g n
    rw [if_pos (by omega)]
  · have h0 := nrm_nl g n
    rcases h0 with h0 | h0
    · exact .inl h0
    · rcases Nat.eq_zero_or_pos (nl g n) with e | e
      · exact .inl e
      · right
        have := nl_le g n
        show (if nl g n - 1 < n then g (nl g n - 1) else f (nl g n - 1)) ≠ 0
        rw [if_pos (by omega)]
        exact h0
end
section
open Go.RowKit
theorem acr_one {x : Nat → Nat} {y : Nat} (hy : y ≤ 1) {k : Nat} (hx : ∀ i, i < k → x i < 18446744073709551616) : acr x y k ≤ 1 := by
  induction k with
  | zero => exact hy
  | succ k ih =>
    have h1 := ih fun i hi => hx i (by omega)
    exact acr_le (hx k (by omega)) (by omega)
theorem add_join {n m c1 : Nat} {g x y : Nat → Nat} {c2 : Nat} (hmn : n ≤ m) (h1 : vl g n + c1 * 18446744073709551616 ^ n = vl x n + vl y n) (h2 : c2 = acr (fun i => x (n + i)) c1 (m - n)) :
    vl (fun j => if j = m then c2 else jn n g (aw (fun i => x (n + i)) c1) j) (m + 1) = vl x m + vl y n := by
  obtain ⟨q, rfl⟩ : ∃ q, m = n + q := ⟨m - n, by omega⟩
  rw [Nat.add_sub_cancel_left] at h2
  have h3 := vl_aw (fun i => x (n + i)) c1 q
  rw [← h2] at h3
  rw [vl_put, vl_jn, vl_add x n q, Nat.pow_add]
  generalize vl (aw (fun i => x (n + i)) c1) q = A at *
  generalize vl (fun i => x (n + i)) q = B at *
  generalize 18446744073709551616 ^ q = Q at *
  generalize 18446744073709551616 ^ n = P at *
  have e2 : P * A + c2 * (P * Q) = P * B + P * c1 := by rw [Nat.mul_left_comm, ← Nat.mul_add, ← Nat.mul_add, h3]
  have e3 := Nat.mul_comm c1 P
  omega
set_option maxRecDepth 100000 in
set_option maxHeartbeats 1000000 in
theorem add_long (zo : Option (Nat × Nat)) (mz xb xc m yb yc n : Nat) (fz x y : Nat → Nat) (w : World) (hz : Nt w zo mz fz) (hx : Nt w (some (xb, xc)) m x) (hy : Nt w (some (yb, yc)) n y) (hn : 1 ≤ n) (hmn : n ≤ m) (hm : m ≤ 100000) :
    Calls Tryz.prog 154 #[nv zo mz, .slice (some ⟨xb, 0, none⟩) m xc, .slice (some ⟨yb, 0, none⟩) n yc] w (NRes w zo (vl x m + vl y n)) := by
  have hmk : Calls Tryz.prog 171 #[nv zo mz, .int .i64 ((m : Int) + 1)] w _ := make_any zo mz (m + 1) fz w hz (by omega) (by omega)
  have hl : ∃ a l k, nv zo mz = .slice a l k := by rcases zo with _ | ⟨b, c⟩ <;> exact ⟨_, _, _, rfl⟩
  obtain ⟨a, l, k, e⟩ := hl
  rw [e] at hmk ⊢
  have hx1 := hx.1
  have hy1 := hy.1
  have m0 : ((m : Int) == 0) = false := beq0_false (by omega)
  have n0 : ((n : Int) == 0) = false := beq0_false (by omega)
  have e186 := tw186
  clear e hz
  have hx := Lib.hid hx
  have hy := Lib.hid hy
  have hnx : n ≤ xc := by omega
  by_cases hgt : n < m
  · go_enter Tryz.func154, Tryz.ntmps154
    go_wp2_with (go_at_call 171; refine hmk.mono ?_; rintro e w1 ⟨zb, c, f, rfl, hroom⟩; have hle := hroom.out.le; have hcap := hroom.out.cap; have hnc : n ≤ c := by omega)
    go_still_tail 9, (by kernel_rfl)
    change wpList _ _ _ _ _ w1.drew
    have hZ := Lib.hid hroom.out.wd.drew
    have hX := Lib.hid (hx.out.2.2.2.1.still hroom.out.turn).drew
    have hY := Lib.hid (hy.out.2.2.2.1.still hroom.out.turn).drew
    have hPx := Lib.hid (show Plain w1.drew xb from (show Plain w1 xb from hx.out.2.2.2.2.still hroom.out.turn))
    have hR0 := Lib.hid (Rw.refl zb 0 (m + 1) w1).drew
    have hPz := Lib.hid (show Plain w1.drew zb from hroom.out.pl)
    generalize w1.drew = wd at hZ hX hY hPx hPz hR0 ⊢
    have hVV := addVV_any zb 0 c xb 0 xc yb 0 yc n f x y wd (by omega) (hZ.out.mono hnc) (hX.out.mono (by omega)) (hY.out.mono hy1) (fun _ => Nat.le_refl _) (fun _ => Nat.le_refl _)
    go_wp2_with (go_at_call 86; refine hVV.mono ?_; rintro e wa ⟨c1, g, rfl, hc1, hrA, hgA, hvA⟩; have hrA := Lib.hid hrA; have hgA := Lib.hid hgA; have hvA := Lib.hid hvA)
    clear hVV
    have hnx2 : n < xc := by omega
    have hmc : m ≤ c := by omega
    go_still_tail 8, (by kernel_rfl)
    change wpList _ _ _ _ _ wa.drew
    have hrA := Lib.hid (hrA.out.drew)
    have hgA := Lib.hid (hgA.out.drew)
    generalize wa.drew = wb at hrA hgA ⊢
    have hW : Calls Tryz.prog 187 #[.slice (some ⟨zb, n, none⟩) (m - n) (c - n), .slice (some ⟨xb, n, none⟩) (m - n) (xc - n), .int .u64 (c1 : Int)] wb (AwPost zb n (m - n) c1 (fun i => x (n + i)) wb) := by
      obtain ⟨q, hq⟩ : ∃ q, m - n = q + 1 := ⟨m - n - 1, by omega⟩
      rw [hq]
      refine addVW_any zb n (c - n) xb n (xc - n) q c1 (fun i => f (n + i)) (fun i => x (n + i)) wb (by omega) (fun i hi => ?_) (fun i hi => ?_) (fun _ => rfl) (by omega) (by omega) (hrA.out.plain hPz.out) (hrA.out.plain hPx.out) (by omega)
      · have := hX.out.rw hrA.out (i := n + i) (by omega) (fun _ => by omega)
        rw [Nat.zero_add] at this; exact this
      · have := hZ.out.rw hrA.out (i := n + i) (by omega) (fun _ => by omega)
        rw [Nat.zero_add] at this; exact this
    go_wp2_with (first
      | (go_at_call 187; refine hW.mono ?_; rintro e wc ⟨rfl, hrC, hgC⟩; have hrC := Lib.hid hrC; have hgC := Lib.hid hgC
         have hcm := (hZ.out.rw hrA.out (i := m) (by omega) (fun _ => by omega)); rw [Nat.zero_add] at hcm
         have hcm1 := (hrC.out.out m (by omega)).trans hcm.1; have hcm2 := (hrC.out.frz m).trans hcm.2.1; clear hcm)
      )
    have hrT : Rw zb 0 (m + 1) w1 (wc.setCell ⟨zb, m, none⟩ (.int .u64 ((acr (fun i => x (n + i)) c1 (m - n) : Nat) : Int))) :=
      ((hR0.out.trans (hrA.out.mono (Nat.zero_le _) (by omega))).trans (hrC.out.mono (Nat.zero_le _) (by omega))).set (Nat.zero_le _) (by omega) _
    have hgT := (((hgA.out.rwAll hrC.out (fun i hi _ => by omega)).jn (k := m - n) (g := aw (fun i => x (n + i)) c1) (by rw [Nat.zero_add]; exact hgC.out)))
    rw [show n + (m - n) = m by omega] at hgT
    have hc2 : acr (fun i => x (n + i)) c1 (m - n) < 18446744073709551616 := by
      have := acr_one (x := fun i => x (n + i)) hc1 (k := m - n) (fun i hi => (hX.out (n + i) (by omega)).2.2)
      omega
    have hgT := hgT.snoc (by rw [Nat.zero_add]; exact hcm1) (by rw [Nat.zero_add]; exact hcm2) hc2
    rw [Nat.zero_add] at hgT
    have hfin := Lib.hid (hroom.out.res (v := vl x m + vl y n) (by omega) hrT hgT (Nat.le_refl _) (add_join (by omega) hvA.out rfl))
    have hnorm := norm_some zb c (m + 1) _ _ hle hcap hgT
    refine hnorm.mono ?_
    rintro e w9 ⟨rfl, rfl⟩
    go_wp2_with fail
    go_ret
    exact hfin.out
  · obtain rfl : m = n := by omega
    go_enter Tryz.func154, Tryz.ntmps154
    go_wp2_with (go_at_call 171; refine hmk.mono ?_; rintro e w1 ⟨zb, c, f, rfl, hroom⟩; have hle := hroom.out.le; have hcap := hroom.out.cap; have hnc : m ≤ c := by omega)
    go_still_tail 9, (by kernel_rfl)
    change wpList _ _ _ _ _ w1.drew
    have hZ := Lib.hid hroom.out.wd.drew
    have hX := Lib.hid (hx.out.2.2.2.1.still hroom.out.turn).drew
    have hY := Lib.hid (hy.out.2.2.2.1.still hroom.out.turn).drew
    have hR0 := Lib.hid (Rw.refl zb 0 (m + 1) w1).drew
    generalize w1.drew = wd at hZ hX hY hR0 ⊢
    have hVV := addVV_any zb 0 c xb 0 xc yb 0 yc m f x y wd (by omega) (hZ.out.mono hnc) (hX.out.mono hx1) (hY.out.mono hy1) (fun _ => Nat.le_refl _) (fun _ => Nat.le_refl _)
    go_wp2_with (first
      | (go_at_call 86; refine hVV.mono ?_; rintro e wa ⟨c1, g, rfl, hc1, hrA, hgA, hvA⟩; have hrA := Lib.hid hrA; have hgA := Lib.hid hgA; have hvA := Lib.hid hvA
         have hcm := (hZ.out.rw hrA.out (i := m) (by omega) (fun _ => by omega)); rw [Nat.zero_add] at hcm
         have hcm1 := hcm.1; have hcm2 := hcm.2.1; clear hcm))
    have hrT : Rw zb 0 (m + 1) w1 (wa.setCell ⟨zb, m, none⟩ (.int .u64 ((c1 : Nat) : Int))) :=
      (hR0.out.trans (hrA.out.mono (Nat.zero_le _) (by omega))).set (Nat.zero_le _) (by omega) _
    have hgT := hgA.out.snoc (v := c1) (by rw [Nat.zero_add]; exact hcm1) (by rw [Nat.zero_add]; exact hcm2) (by omega)
    rw [Nat.zero_add] at hgT
    have hfin := Lib.hid (hroom.out.res (v := vl x m + vl y m) (by omega) hrT hgT (Nat.le_refl _) (by rw [vl_put]; exact hvA.out))
    have hnorm := norm_some zb c (m + 1) _ _ hle hcap hgT
    refine hnorm.mono ?_
    rintro e w9 ⟨rfl, rfl⟩
    go_wp2_with fail
    go_ret
    exact hfin.out
end
end Go.Proofs.YtllapbkoildfiaaGreatFmt
