/- Natural numbers of big: the walk of mul, where the product is new and the shorter factor has less than 40 words · Natural numbers of big: mul · Natural numbers of big: shifts to the left. -/
import Derived.Test.YtllapbkoildfiaaGreatFmtM10
import Derived.IntWalk
import Derived.Deep.RegionLaw
set_option linter.all false
namespace Go.Proofs.YtllapbkoildfiaaGreatFmt
section
open Go.RowKit
theorem alias_nil (a : Option Addr) (n c : Nat) (w : World) : Calls Tryz.prog 181 #[.slice none 0 0, .slice a n c] w fun e w' => e = .returned (.bool false) ∧ ∃ k, w' = w.drewN k := by
  go_enter Tryz.func181, Tryz.ntmps181
  go_wp2_with fail
  go_quiet (fail)
  go_wp2
  go_ret
  exact ⟨rfl, _, rfl⟩
structure BRel (zb m n : Nat) (x y : Nat → Nat) (w : World) (k : Nat) (wr : World) : Prop where
  rw : Rw zb 0 (m + n) w wr
  wd : ∃ g, Wd wr zb 0 (m + n) g ∧ (∀ i, m + k ≤ i → i < m + n → g i = 0) ∧ vl g (m + k) = vl x m * vl y k
theorem BRel.zero {zb m n : Nat} {x y : Nat → Nat} {w wr : World} {k : Nat} (h : BRel zb m n x y w k wr) (hk : k < n) (h0 : y k = 0) : BRel zb m n x y w (k + 1) wr := by
  obtain ⟨g, hg, hz, hv⟩ := h.wd
  refine ⟨h.rw, g, hg, fun i h1 h2 => hz i (by omega) h2, ?_⟩
  rw [← Nat.add_assoc, vl_succ, vl_succ, hz (m + k) (Nat.le_refl _) (by omega), h0, Nat.zero_mul, Nat.zero_mul, Nat.add_zero, Nat.add_zero, hv]
theorem BRel.step {zb m n : Nat} {x y : Nat → Nat} {w wr : World} {k : Nat} (hrel : BRel zb m n x y w k wr) (hk : k < n) {g : Nat → Nat} (hg : Wd wr zb 0 (m + n) g) (hz : ∀ i, m + k ≤ i → i < m + n → g i = 0) (hv : vl g (m + k) = vl x m * vl y k)
    {wa : World} {c : Nat} {g' : Nat → Nat} (hr : Rw zb k (k + m) wr wa) (hg' : Wd wa zb k m g') (hc : c < 18446744073709551616) (he : vl g' m + c * 18446744073709551616 ^ m = vl (fun i => g (k + i)) m + vl x m * y k + 0) :
    BRel zb m n x y w (k + 1) (wa.setCell ⟨zb, m + k, none⟩ (.int .u64 (c : Int))) := by
  have hcell := hg.rw hr (i := m + k) (by omega) (fun _ => by omega)
  rw [Nat.zero_add] at hcell
  have hG : Wd wa zb 0 (m + n) (jn k g (jn m g' (fun i => g (k + m + i)))) := by
    have h1 : Wd wa zb 0 k g := (hg.mono (by omega)).rwAll hr fun i hi _ => by omega
    have h2 : Wd wa zb (0 + k + m) (n - k) (fun i => g (k + m + i)) := fun i hi => by
      have := hg.rw hr (i := k + m + i) (by omega) (fun _ => by omega)
      rw [Nat.zero_add] at this ⊢; exact this
    have h3 := h1.jn (k := m + (n - k)) (((show Wd wa zb (0 + k) m g' by rw [Nat.zero_add]; exact hg')).jn h2)
    rw [show k + (m + (n - k)) = m + n by omega] at h3
    exact h3
  have hP := hG.put (k := m + k) (by omega) hc
  rw [Nat.zero_add] at hP
  refine ⟨(hrel.rw.trans (hr.mono (Nat.zero_le _) (by omega))).set (Nat.zero_le _) (by omega) _, _, hP, fun i h1 h2 => ?_, ?_⟩
  · rw [if_neg (by omega)]
    unfold jn
    rw [if_neg (by omega), if_neg (by omega)]
    show g (k + m + (i - k - m)) = 0
    rw [show k + m + (i - k - m) = i by omega]
    exact hz i (by omega) h2
  · rw [← Nat.add_assoc, vl_put, Nat.add_comm m k, vl_jn, vl_succ]
    have e1 : vl (jn m g' (fun i => g (k + m + i))) m = vl g' m := vl_congr fun i hi => by unfold jn; rw [if_pos hi]
    rw [e1, Nat.mul_add, ← hv, Nat.add_comm m k, vl_add g k m, Nat.pow_add]
    generalize vl g k = A
    generalize vl g' m = B at *
    generalize vl (fun i => g (k + i)) m = C at *
    generalize 18446744073709551616 ^ k = P at *
    generalize 18446744073709551616 ^ m = Q at *
    have e2 : P * B + c * (P * Q) = P * C + P * (vl x m * y k) := by rw [Nat.mul_left_comm, ← Nat.mul_add, ← Nat.mul_add, he, Nat.add_zero]
    rw [Nat.mul_left_comm P (vl x m) (y k), Nat.mul_comm P (y k)] at e2
    omega
theorem BRel.drew {zb m n : Nat} {x y : Nat → Nat} {w wr : World} {k : Nat} (h : BRel zb m n x y w k wr) : BRel zb m n x y w k wr.drew := ⟨h.rw.drew, h.wd⟩
theorem bne0_true {a : Nat} (h : a ≠ 0) : ((a : Int) != 0) = true := by
  have := beq0_false h
  simp only [bne, this, Bool.not_false]
set_option maxRecDepth 100000 in
set_option maxHeartbeats 1000000 in
theorem basicMul_any (zb zc xb xc m yb yc n : Nat) (f x y : Nat → Nat) (w : World) (hz : Wd w zb 0 (m + n) f) (hzc : m + n ≤ zc) (hx : Wd w xb 0 m x) (hy : Wd w yb 0 n y) (hm : 1 ≤ m) (hm2 : m ≤ 100000) (hn : n ≤ 100000) (hxz : xb ≠ zb) (hyz : yb ≠ zb) :
    Calls Tryz.prog 208 #[.slice (some ⟨zb, 0, none⟩) (m + n) zc, .slice (some ⟨xb, 0, none⟩) m xc, .slice (some ⟨yb, 0, none⟩) n yc] w fun e w' =>
      e = .returned (.tuple #[]) ∧ ∃ g, Rw zb 0 (m + n) w w' ∧ Wd w' zb 0 (m + n) g ∧ vl g (m + n) = vl x m * vl y n := by
  obtain ⟨w1, hcl, hr1, hg1⟩ := run_clear_wd w 0 126 Tryz.underlying126 (zc := zc) hz
  have hrel0 : BRel zb m n x y w 0 w1 := by
    rw [Nat.zero_add] at hr1
    refine ⟨hr1, _, hg1, fun _ _ _ => rfl, ?_⟩
    have : ∀ q, vl (fun _ => 0) q = 0 := fun q => by
      induction q with
      | zero => rfl
      | succ q ih => rw [vl_succ, ih, Nat.zero_mul]
    rw [this]; rfl
  have hrel0 := Lib.hid hrel0
  have e221 := tw221
  clear hz hr1 hg1
  go_enter Tryz.func208, Tryz.ntmps208
  go_wp2
  go_loopw [17] (fun vi wr => ∃ k : Nat, k ≤ n ∧ vi = .int .i64 k ∧ BRel zb m n x y w k wr) (fun vi _ => n - (intOf vi).toNat)
  case atStart => exact ⟨0, Nat.zero_le _, rfl, hrel0.out⟩
  case round =>
    obtain ⟨k, hk, rfl, hrel⟩ := hrel
    by_cases hlt : k < n
    · have cy := (hy.rw hrel.rw (i := k) hlt (fun e => absurd e hyz)).1
      rw [Nat.zero_add] at cy
      by_cases h0 : y k = 0
      · have b0 := beq0_true h0
        have hst := Lib.hid (hrel.zero hlt h0)
        have h0 := Lib.hid h0
        clear hrel
        go_wp2
        all_goals go_roundw
        case rel => exact ⟨k + 1, by omega, by go_num, hst.out⟩
        case measure => simp [intOf]; omega
      · have b0 := beq0_false h0
        obtain ⟨g, hg, hz0, hv⟩ := hrel.wd
        have hd := (hy k hlt).2.2
        have hkc : k < zc := by omega
        have hkc2 : k + m ≤ zc := by omega
        have hzk : ¬ zc = k := by omega
        have hi4 : 0 ≤ (m : Int) + (k : Int) := by omega
        have hi5 : (m : Int) + (k : Int) < (m : Int) + (n : Int) := by omega
        have hi6 : m + k < m + n := by omega
        have hn1 : ((k : Int) + (m : Int)).toNat = k + m := by omega
        have hn2 : ((m : Int) + (k : Int)).toNat = m + k := by omega
        have hw1 : IntKind.i64.wrap ((m : Int) + (k : Int)) = (m : Int) + (k : Int) := IntWalk.i64_in _ (by omega)
        have hw2 : IntKind.i64.wrap ((k : Int) + (m : Int)) = (k : Int) + (m : Int) := IntWalk.i64_in _ (by omega)
        have hi1 : (k : Int) ≤ (k : Int) + (m : Int) := by omega
        have hi2 : (k : Int) + (m : Int) ≤ (zc : Int) := by omega
        have hi3 : 0 ≤ (k : Int) + (m : Int) := by omega
        go_wp2_with fail
        have hrel := Lib.hid hrel.drew
        have hg := Lib.hid hg.drew
        have hA : Calls Tryz.prog 91 #[.slice (some ⟨zb, k, none⟩) m (zc - k), .slice (some ⟨zb, k, none⟩) m (zc - k), .slice (some ⟨xb, 0, none⟩) m xc, .int .u64 (y k : Int), .int .u64 0] wr.drew _ := addMulVVWW_any zb k (zc - k) zb k (zc - k) xb 0 xc m (y k) 0 (fun i => g (k + i)) (fun i => g (k + i)) x wr.drew (by omega)
          (fun i hi => by have := hg.out (k + i) (by omega); rw [Nat.zero_add] at this; exact this) (fun i hi => by have := hg.out (k + i) (by omega); rw [Nat.zero_add] at this; exact this)
          (fun i hi => hx.rw hrel.out.rw hi (fun e => absurd e hxz)) (fun _ => Nat.le_refl _) hxz hd (by omega)
        have hst := Lib.hid (fun (wa : World) (c : Nat) (g' : Nat → Nat) => hrel.out.step hlt hg.out hz0 hv (wa := wa) (c := c) (g' := g'))
        have hcell := hg.out (m + k) (by omega)
        rw [Nat.zero_add] at hcell
        have hc1 := hcell.1
        have hc2 := hcell.2.1
        clear hcell hz0 hv h0 hd
        go_region_law ((go_simp; go_at_call 91; (with_reducible refine hA.mono ?_); rintro e wa ⟨c, g', rfl, hcl2, hrA, hgA, heA⟩
                        have hcw1 := (hrA.out (m + k) (by omega)).trans hc1; have hcw2 := (hrA.frz (m + k)).trans hc2
                        have hnew := Lib.hid (hst.out _ _ _ hrA hgA hcl2 heA); clear hst hrA hgA heA hcl2))
        all_goals go_wp2
        all_goals go_roundw
        case rel => exact ⟨k + 1, by omega, by go_num, hnew.out⟩
        case measure => simp [intOf]; omega
    · obtain rfl : k = n := by omega
      obtain ⟨g, hg, _, hv⟩ := hrel.wd
      have hfin := Lib.hid (show ∃ g, Rw zb 0 (m + k) w wr ∧ Wd wr zb 0 (m + k) g ∧ vl g (m + k) = vl x m * vl y k from ⟨g, hrel.rw, hg, hv⟩)
      clear hrel hg hv
      go_wp2
      (try simp only [Exit.inBlock, Exit.then]); refine bodyPost_end (results_none rfl _ _ _) rfl ?_
      exact ⟨rfl, hfin.out⟩
end
section
open Go.RowKit
set_option maxRecDepth 100000 in
set_option maxHeartbeats 1000000 in
theorem mulAddWW_new (xb xc m y : Nat) (x : Nat → Nat) (w : World) (hx : Wd w xb 0 m x) (hm : 1 ≤ m) (hm2 : m ≤ 100000) (hy : y < 18446744073709551616) (hy0 : y ≠ 0) :
    Calls Tryz.prog 213 #[.slice none 0 0, .slice (some ⟨xb, 0, none⟩) m xc, .int .u64 (y : Int), .int .u64 0] w (NRes w none (vl x m * y)) := by
  have hmk : Calls Tryz.prog 171 #[.slice none 0 0, .int .i64 ((m : Int) + 1)] w _ := make_any none 0 (m + 1) (fun _ => 0) w rfl (by omega) (by omega)
  have m0 : ((m : Int) == 0) = false := beq0_false (by omega)
  have y0 : ((y : Int) == 0) = false := beq0_false hy0
  have e227 := tw227
  have hx := Lib.hid hx
  go_enter Tryz.func213, Tryz.ntmps213
  go_wp2_with (first
    | (go_at_call 171; refine hmk.mono ?_; rintro e w1 ⟨zb, c, f, rfl, hroom⟩; have hle := hroom.out.le; have hcap := hroom.out.cap; have hmc : m ≤ c := by omega
       have hA := mulAddVWW_any zb 0 c xb 0 xc m y 0 f x w1 (by omega) (hroom.out.wd.mono (by omega)) (hx.out.still hroom.out.turn) (fun _ => Nat.le_refl _) hy (by omega)
       have hA : Calls Tryz.prog 90 #[.slice (some ⟨zb, 0, none⟩) m c, .slice (some ⟨xb, 0, none⟩) m xc, .int .u64 (y : Int), .int .u64 0] w1 _ := hA
       have hcm := hroom.out.wd m (by omega); rw [Nat.zero_add] at hcm; have hcm1 := hcm.1; have hcm2 := hcm.2.1; clear hcm)
    | (go_at_call 90; ((with_reducible refine hA.mono ?_)); rintro e wa ⟨c1, g, rfl, hc1, hrA, hgA, hvA⟩
       have hcn1 := (hrA.out m (by omega)).trans hcm1; have hcn2 := (hrA.frz m).trans hcm2
       have hrA := Lib.hid hrA; have hgA := Lib.hid hgA; have hvA := Lib.hid hvA; clear hA))
  have hrT : Rw zb 0 (m + 1) w1 (wa.setCell ⟨zb, m, none⟩ (.int .u64 ((c1 : Nat) : Int))) := (hrA.out.mono (Nat.zero_le _) (by omega)).set (Nat.zero_le _) (by omega) _
  have hgT := hgA.out.snoc (v := c1) (by rw [Nat.zero_add]; exact hcn1) (by rw [Nat.zero_add]; exact hcn2) hc1
  rw [Nat.zero_add] at hgT
  have hfin := Lib.hid (hroom.out.res (v := vl x m * y) (by omega) hrT hgT (Nat.le_refl _) (by rw [vl_put]; exact hvA.out))
  refine (norm_some zb c (m + 1) _ _ hle hcap hgT).mono ?_
  rintro e w9 ⟨rfl, rfl⟩
  go_wp2_with fail
  go_ret
  exact hfin.out
theorem make_two (m n : Nat) (h1 : 1 ≤ m + n) (h2 : m + n ≤ 1000000) (W : World) : Calls Tryz.prog 171 #[.slice none 0 0, .int .i64 ((m : Int) + (n : Int))] W fun e w' => ∃ zb c f, e = .returned (.slice (some ⟨zb, 0, none⟩) (m + n) c) ∧ Hid (Room W none (m + n) zb c f w') :=
  make_any none 0 (m + n) (fun _ => 0) W rfl h1 h2
set_option maxRecDepth 100000 in
set_option maxHeartbeats 1000000 in
theorem mul_long (xb xc m yb yc n : Nat) (x y : Nat → Nat) (w : World) (hx : Nt w (some (xb, xc)) m x) (hy : Nt w (some (yb, yc)) n y) (hn : 1 ≤ n) (hmn : n ≤ m) (hn40 : n < 40) (hm : m ≤ 100000) (hy0 : Nrm y n) (hk : w.cell? ⟨5, 0, none⟩ = some (.int .i64 40)) :
    Calls Tryz.prog 193 #[.slice none 0 0, .pointer none, .slice (some ⟨xb, 0, none⟩) m xc, .slice (some ⟨yb, 0, none⟩) n yc] w (NRes w none (vl x m * vl y n)) := by
  have m0 : ((m : Int) == 0) = false := beq0_false (by omega)
  have n0 : ((n : Int) == 0) = false := beq0_false (by omega)
  by_cases h1 : n = 1
  · subst h1
    have hy1 : y 0 ≠ 0 := hy0.resolve_left (by omega)
    have hA := mulAddWW_new xb xc m (y 0) x w (hx.2.2.2.1.mono hx.1) (by omega) hm (hy.bd 0 (by omega)) hy1
    have ev : vl y 1 = y 0 := by simp [vl]
    rw [← ev] at hA
    have hc := (hy.2.2.2.1 0 (by have := hy.1; omega)).1
    rw [ev] at hA
    have ev := Lib.hid ev
    have hA : Calls Tryz.prog 213 #[.slice none 0 0, .slice (some ⟨xb, 0, none⟩) m xc, .int .u64 (y 0 : Int), .int .u64 0] w (NRes w none (vl x m * vl y 1)) := by rw [ev.out]; exact hA
    clear hx hy hk ev hy0 hy1
    go_enter Tryz.func193, Tryz.ntmps193
    go_wp2_with (go_at_call 213; refine hA.mono ?_; rintro e w2 ⟨o, k, f, rfl, hres⟩; have hres := Lib.hid hres)
    go_ret
    exact ⟨o, k, f, rfl, hres.out⟩
  · have hmk := make_two m n (by omega) (by omega)
    have n1 : ((n : Int) == 1) = false := by
      cases h : ((n : Int) == 1) with
      | false => rfl
      | true => exact absurd (by simpa using h) (by omega)
    have hkl := World.block_lt_of_cell? w _ hk
    have hx := Lib.hid hx
    have hy := Lib.hid hy
    have hk := Lib.hid hk
    have hkl := Lib.hid hkl
    have hmn' : m + n ≤ 200000 := by omega
    go_enter Tryz.func193, Tryz.ntmps193
    go_wp2_with (first
      | (go_at_call 181; refine (alias_nil _ _ _ _).mono ?_; rintro e w' ⟨rfl, q, rfl⟩)
      | (go_at_call 171; refine (hmk _).mono ?_; rintro e w1 ⟨zb, c, f, rfl, hroom'⟩; have hroom : Hid (Room w none (m + n) zb c f w1) := Lib.hid hroom'.out.drewN; clear hroom'
         have hkc := (hroom.out.turn.cell (p := ⟨5, 0, none⟩) hkl.out id).trans hk.out
         have hle := hroom.out.le; have hcap := hroom.out.cap
         have hA := basicMul_any zb c xb xc m yb yc n f x y w1 (hroom.out.wd.mono hle) hle ((hx.out.2.2.2.1.mono hx.out.1).still hroom.out.turn) ((hy.out.2.2.2.1.mono hy.out.1).still hroom.out.turn) (by omega) hm (by omega)
           (fun e => by have := hroom.out.fresh rfl; have := hx.out.2.2.2.2.lt; omega) (fun e => by have := hroom.out.fresh rfl; have := hy.out.2.2.2.2.lt; omega))
      | (go_at_call 208; refine hA.mono ?_; rintro e w2 ⟨rfl, g, hr, hg, hv⟩; have hr := Lib.hid hr; have hg := Lib.hid hg; have hv := Lib.hid hv))
    have hfin := Lib.hid (hroom.out.res (v := vl x m * vl y n) (by omega) hr.out hg.out (Nat.le_refl _) hv.out)
    refine (norm_some zb c (m + n) _ _ hle hcap hg.out).mono ?_
    rintro e w9 ⟨rfl, rfl⟩
    go_wp2_with fail
    go_ret
    exact hfin.out
theorem mul_some (xb xc m yb yc n : Nat) (x y : Nat → Nat) (w : World) (hx : Nt w (some (xb, xc)) m x) (hy : Nt w (some (yb, yc)) n y) (hm1 : 1 ≤ m) (hn1 : 1 ≤ n) (h40 : m < 40 ∨ n < 40) (hm : m ≤ 100000) (hn : n ≤ 100000) (hx0 : Nrm x m) (hy0 : Nrm y n) (hk : w.cell? ⟨5, 0, none⟩ = some (.int .i64 40)) :
    Calls Tryz.prog 193 #[.slice none 0 0, .pointer none, .slice (some ⟨xb, 0, none⟩) m xc, .slice (some ⟨yb, 0, none⟩) n yc] w (NRes w none (vl x m * vl y n)) := by
  by_cases h : n ≤ m
  · exact mul_long xb xc m yb yc n x y w hx hy hn1 h (by omega) hm hy0 hk
  · have hA := mul_long yb yc n xb xc m y x w hy hx hm1 (by omega) (by omega) hn hx0 hk
    rw [Nat.mul_comm] at hA
    clear hx hy hk hx0 hy0
    go_enter Tryz.func193, Tryz.ntmps193
    go_wp2_with (go_at_call 193; refine hA.mono ?_; rintro e w2 ⟨o, k, f, rfl, hres⟩; have hres := Lib.hid hres)
    go_ret
    exact ⟨o, k, f, rfl, hres.out⟩
theorem mul_none (a b : Option Addr) (m n ca cb : Nat) (h : m = 0 ∨ n = 0) (hm : m ≤ 100000) (hn : n ≤ 100000) (w : World) :
    Calls Tryz.prog 193 #[.slice none 0 0, .pointer none, .slice a m ca, .slice b n cb] w fun e w' => e = .returned (.slice none 0 0) ∧ w = w' := by
  have key : ∀ (a b : Option Addr) (m ca cb : Nat), m ≤ 100000 → Calls Tryz.prog 193 #[.slice none 0 0, .pointer none, .slice a m ca, .slice b 0 cb] w fun e w' => e = .returned (.slice none 0 0) ∧ w = w' := fun a b m ca cb hm => by
    by_cases h0 : m = 0
    · subst h0
      go_enter Tryz.func193, Tryz.ntmps193
      go_wp2_with fail
      go_ret
      exact ⟨rfl, rfl⟩
    · have m0 := beq0_false h0
      go_enter Tryz.func193, Tryz.ntmps193
      go_wp2_with fail
      go_ret
      exact ⟨rfl, rfl⟩
  by_cases hn0 : n = 0
  · subst hn0; exact key a b m ca cb hm
  · obtain rfl : m = 0 := by omega
    have hA := key b a n cb ca hn
    go_enter Tryz.func193, Tryz.ntmps193
    go_wp2_with (go_at_call 193; refine hA.mono ?_; rintro e w2 ⟨rfl, rfl⟩)
    go_ret
    exact ⟨rfl, rfl⟩
end
section
open Go.RowKit
theorem vl_zeros : ∀ q, vl (fun _ => 0) q = 0 := fun q => by
  induction q with
  | zero => rfl
  | succ q ih => rw [vl_succ, ih, Nat.zero_mul]
def lsw (x : Nat → Nat) (a b t m : Nat) : Nat → Nat := jn a (fun _ => 0) (fun j => if j = m then x (m - 1) / 2 ^ t else lw x b t j)
theorem vl_lsw {x : Nat → Nat} {a b t m : Nat} (h : b + t = 64) (hm : 1 ≤ m) : vl (lsw x a b t m) (a + (m + 1)) = vl x m * 2 ^ (64 * a + b) := by
  obtain ⟨n, rfl⟩ : ∃ n, m = n + 1 := ⟨m - 1, by omega⟩
  unfold lsw
  rw [vl_jn, vl_zeros, vl_put, Nat.add_sub_cancel, Nat.zero_add]
  have h1 := vl_lw (x := x) h n
  rw [h1, Nat.pow_add, Nat.pow_mul]
  have e : (2 : Nat) ^ 64 = 18446744073709551616 := by decide
  rw [e]
  generalize 18446744073709551616 ^ a = P
  rw [Nat.mul_left_comm]
theorem lsh_call (zb a c xb xc m b t : Nat) (f x : Nat → Nat) (w : World) (hm1 : 1 ≤ m) (hm : m ≤ 100000) (hz : Wd w zb a m f) (hx : Wd w xb 0 m x) (hbt : b + t = 64) (hb : 1 ≤ b) (ht : 1 ≤ t) :
    Calls Tryz.prog 88 #[.slice (some ⟨zb, a, none⟩) m c, .slice (some ⟨xb, 0, none⟩) m xc, .int .u64 (b : Int)] w fun e w' =>
      e = .returned (.int .u64 ((x (m - 1) : Int) / 2 ^ t)) ∧ Rw zb a (a + m) w w' ∧ Wd w' zb a m (lw x b t) := by
  obtain ⟨n, rfl⟩ : ∃ n, m = n + 1 := ⟨m - 1, by omega⟩
  exact (lshVU_any zb a c xb 0 xc n b t f x w (by omega) hz hx (fun _ => Nat.zero_le _) hbt hb ht).mono fun e w' ⟨h1, h2, h3⟩ => ⟨by rw [h1, ← ediv_two]; rfl, h2, h3⟩
theorem lsw_wd {zb a b t m c : Nat} {f x : Nat → Nat} {w1 wa w3 : World} (hw : Wd w1 zb 0 c f) (hc : m + a + 1 ≤ c) (hrA : Rw zb a (a + m) w1 wa) (hgA : Wd wa zb a m (lw x b t)) (hx : x (m - 1) < 18446744073709551616)
    (hr3 : Rw zb 0 a (wa.setCell ⟨zb, m + a, none⟩ (.int .u64 ((x (m - 1) : Int) / 2 ^ t))) w3) (hg3 : Wd w3 zb 0 a (fun _ => 0)) :
    Rw zb 0 (m + a + 1) w1 w3 ∧ Wd w3 zb 0 (m + a + 1) (lsw x a b t m) := by
  rw [ediv_two] at hr3
  have hcm := hw.rw hrA (i := m + a) (by omega) (fun _ => by omega)
  rw [Nat.zero_add] at hcm
  have hg4 := hgA.snoc (v := x (m - 1) / 2 ^ t) (u := .int .u64 (f (m + a) : Nat)) (by rw [Nat.add_comm]; exact hcm.1) (by rw [Nat.add_comm]; exact hcm.2.1) (Nat.lt_of_le_of_lt (Nat.div_le_self _ _) hx)
  rw [Nat.add_comm a m] at hg4
  have hg5 := hg4.rwAll hr3 (fun i hi _ => by omega)
  have hg6 := hg3.jn (k := m + 1) (g := fun j => if j = m then x (m - 1) / 2 ^ t else lw x b t j) (by rw [Nat.zero_add]; exact hg5)
  rw [show a + (m + 1) = m + a + 1 by omega] at hg6
  exact ⟨((hrA.mono (Nat.zero_le _) (by omega)).set (j := m + a) (Nat.zero_le _) (by omega) _).trans (hr3.mono (Nat.zero_le _) (by omega)), hg6⟩
set_option maxRecDepth 100000 in
set_option maxHeartbeats 1000000 in
theorem lsh_bits (zo : Option (Nat × Nat)) (mz xb xc m s a b t : Nat) (fz x : Nat → Nat) (w : World) (hz : Nt w zo mz fz) (hx : Nt w (some (xb, xc)) m x) (hm1 : 1 ≤ m) (hm : m ≤ 100000) (hs : s = 64 * a + b) (ha : a ≤ 100000) (hb : 1 ≤ b) (hbt : b + t = 64) (ht : 1 ≤ t) :
    Calls Tryz.prog 152 #[nv zo mz, .slice (some ⟨xb, 0, none⟩) m xc, .int .u64 (s : Int)] w (NRes w zo (vl x m * 2 ^ s)) := by
  have hmk : Calls Tryz.prog 171 #[nv zo mz, .int .i64 ((m : Int) + (a : Int) + 1)] w fun e w' => ∃ zb c f, e = .returned (.slice (some ⟨zb, 0, none⟩) (m + a + 1) c) ∧ Hid (Room w zo (m + a + 1) zb c f w') := make_any zo mz (m + a + 1) fz w hz (by omega) (by omega)
  have hl : ∃ p l k, nv zo mz = .slice p l k := by rcases zo with _ | ⟨b, c⟩ <;> exact ⟨_, _, _, rfl⟩
  obtain ⟨p, l, k, e⟩ := hl
  rw [e] at hmk ⊢
  clear e hz
  have s0 : ((s : Int) == 0) = false := beq0_false (by omega)
  have m0 : ((m : Int) == 0) = false := beq0_false (by omega)
  have b0 : ((b : Int) == 0) = false := beq0_false (by omega)
  have hq : (s : Int) / 64 = (a : Int) := by omega
  have hr : (s : Int) % 64 = (b : Int) := by omega
  have hsb : s ≤ 10000000 := by omega
  replace hs := Lib.hid hs
  replace hbt := Lib.hid hbt
  replace hx := Lib.hid hx
  have e173 := tw173
  go_enter Tryz.func152, Tryz.ntmps152
  go_wp2_with (first
    | (go_at_call 171; refine hmk.mono ?_; rintro e w1 ⟨zb, c, f, rfl, hroom⟩; have hle := hroom.out.le; have hcap := hroom.out.cap; have hac : a < c := (by omega); have hmac : m + a ≤ c := (by omega))
    | (go_at_call 88; refine (lsh_call zb a (c - a) xb xc m b t (fun i => f (a + i)) x w1 hm1 hm (fun i hi => by have := hroom.out.wd (a + i) (by omega); rw [Nat.zero_add] at this; exact this) ((hx.out.2.2.2.1.mono hx.out.1).still hroom.out.turn) hbt.out hb ht).mono ?_
       rintro e wa ⟨rfl, hrA, hgA⟩
       have hcm := hroom.out.wd.rw hrA (i := m + a) (by omega) (fun _ => by omega)
       rw [Nat.zero_add] at hcm
       have hcm1 := hcm.1
       have hcm2 := hcm.2.1
       clear hcm
       obtain ⟨w3, hclr, hr3, hg3⟩ := run_clear_wd (wa.setCell ⟨zb, m + a, none⟩ (.int .u64 ((x (m - 1) : Int) / 2 ^ t))) 0 126 Tryz.underlying126 (zc := c) (n := a) (zb := zb) (zo := 0) (f := f) (fun i hi => by
         have := (hroom.out.wd i (by omega))
         have h2 := hroom.out.wd.rw hrA (i := i) (by omega) (fun _ => by omega)
         rw [Nat.zero_add] at h2 ⊢
         exact ⟨(World.cell?_setCell_other _ _ _ _ (by intro e; simp at e <;> omega)).trans h2.1, by rw [World.frozen?_setCell]; exact h2.2.1, h2.2.2⟩)
       rw [Nat.zero_add] at hr3
       have hall := Lib.hid (lsw_wd hroom.out.wd hle hrA hgA (hx.out.bd (m - 1) (by omega)) hr3 hg3)
       clear hrA hgA hr3 hg3))
  have hfin := Lib.hid (hroom.out.res (v := vl x m * 2 ^ s) (by omega) hall.out.1 hall.out.2 (Nat.le_refl _) (by rw [show m + a + 1 = a + (m + 1) by omega, vl_lsw hbt.out hm1, hs.out]))
  refine (norm_some zb c (m + a + 1) _ _ hle hcap hall.out.2).mono ?_
  rintro e w9 ⟨rfl, rfl⟩
  go_wp2_with fail
  go_ret
  exact hfin.out
theorem vl_lsw0 {x : Nat → Nat} {a m : Nat} : vl (jn a (fun _ => 0) (fun j => if j = m then 0 else x j)) (a + (m + 1)) = vl x m * 2 ^ (64 * a) := by
  rw [vl_jn, vl_zeros, vl_put, Nat.zero_mul, Nat.add_zero, Nat.zero_add, Nat.pow_mul]
  have e : (2 : Nat) ^ 64 = 18446744073709551616 := by decide
  rw [e, Nat.mul_comm]
theorem lsw0_wd {zb a m c : Nat} {f x : Nat → Nat} {w1 wa w3 : World} (hw : Wd w1 zb 0 c f) (hc : m + a + 1 ≤ c) (hrA : Rw zb a (a + m) w1 wa) (hgA : Wd wa zb a m x)
    (hr3 : Rw zb 0 a (wa.setCell ⟨zb, m + a, none⟩ (.int .u64 0)) w3) (hg3 : Wd w3 zb 0 a (fun _ => 0)) :
    Rw zb 0 (m + a + 1) w1 w3 ∧ Wd w3 zb 0 (m + a + 1) (jn a (fun _ => 0) (fun j => if j = m then 0 else x j)) := by
  have hcm := hw.rw hrA (i := m + a) (by omega) (fun _ => by omega)
  rw [Nat.zero_add] at hcm
  have hg4 := hgA.snoc (v := 0) (u := .int .u64 (f (m + a) : Nat)) (by rw [Nat.add_comm]; exact hcm.1) (by rw [Nat.add_comm]; exact hcm.2.1) (by omega)
  rw [Nat.add_comm a m] at hg4
  have hg5 := Wd.rwAll hg4 hr3 (fun i hi _ => by omega)
  have hg6 := hg3.jn (k := m + 1) (g := fun j => if j = m then 0 else x j) (by rw [Nat.zero_add]; exact hg5)
  rw [show a + (m + 1) = m + a + 1 by omega] at hg6
  exact ⟨((hrA.mono (Nat.zero_le _) (by omega)).set (j := m + a) (Nat.zero_le _) (by omega) _).trans (hr3.mono (Nat.zero_le _) (by omega)), hg6⟩
set_option maxRecDepth 100000 in
set_option maxHeartbeats 1000000 in
theorem lsh_words (zo : Option (Nat × Nat)) (mz xb xc m s a : Nat) (fz x : Nat → Nat) (w : World) (hz : Nt w zo mz fz) (hx : Nt w (some (xb, xc)) m x) (hm1 : 1 ≤ m) (hm : m ≤ 100000) (hs : s = 64 * a) (ha : a ≤ 100000) (ha1 : 1 ≤ a) :
    Calls Tryz.prog 152 #[nv zo mz, .slice (some ⟨xb, 0, none⟩) m xc, .int .u64 (s : Int)] w (NRes w zo (vl x m * 2 ^ s)) := by
  have hmk : Calls Tryz.prog 171 #[nv zo mz, .int .i64 ((m : Int) + (a : Int) + 1)] w fun e w' => ∃ zb c f, e = .returned (.slice (some ⟨zb, 0, none⟩) (m + a + 1) c) ∧ Hid (Room w zo (m + a + 1) zb c f w') := make_any zo mz (m + a + 1) fz w hz (by omega) (by omega)
  have hl : ∃ p l k, nv zo mz = .slice p l k := by rcases zo with _ | ⟨b, c⟩ <;> exact ⟨_, _, _, rfl⟩
  obtain ⟨p, l, k, e⟩ := hl
  rw [e] at hmk ⊢
  clear e hz
  have s0 : ((s : Int) == 0) = false := beq0_false (by omega)
  have m0 : ((m : Int) == 0) = false := beq0_false (by omega)
  have hq : (s : Int) / 64 = (a : Int) := by omega
  have hr : (s : Int) % 64 = 0 := by omega
  have hsb : s ≤ 10000000 := by omega
  replace hs := Lib.hid hs
  replace hx := Lib.hid hx
  go_enter Tryz.func152, Tryz.ntmps152
  go_wp2_with (first
    | (go_at_call 171; refine hmk.mono ?_; rintro e w1 ⟨zb, c, f, rfl, hroom⟩
       have hle := hroom.out.le
       have hcap := hroom.out.cap
       have hac : a < c := by omega
       have hmac : m + a ≤ c := by omega
       have hxw := (hx.out.2.2.2.1.mono hx.out.1).still hroom.out.turn
       have hzw : Wd w1 zb a m (fun i => f (a + i)) := fun i hi => by
         have := hroom.out.wd (a + i) (by omega)
         rw [Nat.zero_add] at this; exact this
       obtain ⟨wa, hcp, hrA, hgA⟩ := run_copy_wd w1 3 126 Tryz.underlying126 (zl := m) (zc := c - a) (xl := m) (xc := xc) hzw hxw (Nat.min_self m).symm
       have hcm := hroom.out.wd.rw hrA (i := m + a) (by omega) (fun _ => by omega)
       rw [Nat.zero_add] at hcm
       have hcm1 := hcm.1
       have hcm2 := hcm.2.1
       clear hcm hxw hzw
       obtain ⟨w3, hclr, hr3, hg3⟩ := run_clear_wd (wa.setCell ⟨zb, m + a, none⟩ (.int .u64 0)) 0 126 Tryz.underlying126 (zc := c) (n := a) (zb := zb) (zo := 0) (f := f) (fun i hi => by
         have h2 := hroom.out.wd.rw hrA (i := i) (by omega) (fun _ => by omega)
         rw [Nat.zero_add] at h2 ⊢
         exact ⟨(World.cell?_setCell_other _ _ _ _ (by intro e; simp at e <;> omega)).trans h2.1, by rw [World.frozen?_setCell]; exact h2.2.1, h2.2.2⟩)
       rw [Nat.zero_add] at hr3
       have hall := Lib.hid (lsw0_wd hroom.out.wd hle hrA hgA hr3 hg3)
       clear hrA hgA hr3 hg3))
  have hfin := Lib.hid (hroom.out.res (v := vl x m * 2 ^ s) (by omega) hall.out.1 hall.out.2 (Nat.le_refl _) (by rw [show m + a + 1 = a + (m + 1) by omega, vl_lsw0, hs.out]))
  refine (norm_some zb c (m + a + 1) _ _ hle hcap hall.out.2).mono ?_
  rintro e w9 ⟨rfl, rfl⟩
  go_wp2_with fail
  go_ret
  exact hfin.out
theorem same_nil (a : Option Addr) (n c : Nat) (hn : n ≤ 100000000) (w : World) : Calls Tryz.prog 180 #[.slice none 0 0, .slice a n c] w fun e w' => e = .returned (.bool false) ∧ ∃ k, w' = w.drewN k := by
  by_cases h : n = 0
  · subst h
    go_enter Tryz.func180, Tryz.ntmps180
    go_wp2_with fail
    go_quiet (fail)
    go_wp2
    go_ret
    exact ⟨rfl, _, rfl⟩
  · have h0 : ((0 : Int) == (n : Int)) = false := by
      cases g : ((0 : Int) == (n : Int)) with
      | false => rfl
      | true => exact absurd (by have : (0 : Int) = (n : Int) := by simpa using g
                                 omega) h
    go_enter Tryz.func180, Tryz.ntmps180
    go_wp2_with fail
    go_quiet (fail)
    go_wp2
    go_ret
    exact ⟨rfl, _, rfl⟩
theorem NRes.drewN {w : World} {zo : Option (Nat × Nat)} {v : Nat} {e : Ending} {w' : World} {k : Nat} (h : NRes (w.drewN k) zo v e w') : NRes w zo v e w' := by
  obtain ⟨o, n, f, he, h1, h2, h3, h4, h5⟩ := h
  exact ⟨o, n, f, he, h1, h2, h3, h4, ⟨h5.os, h5.tape, h5.output, h5.size, h5.block⟩⟩
set_option maxHeartbeats 1000000 in
theorem lsh_none (xo : Option (Nat × Nat)) (m : Nat) (x : Nat → Nat) (w : World) (hx : Nt w xo m x) (hm : m ≤ 100000) (hx0 : Nrm x m) :
    Calls Tryz.prog 152 #[.slice none 0 0, nv xo m, .int .u64 0] w (NRes w none (vl x m)) := by
  have hl : ∃ p l k, nv xo m = .slice p l k ∧ l ≤ 100000000 := by
    rcases xo with _ | ⟨b, c⟩
    · exact ⟨_, _, _, rfl, by omega⟩
    · exact ⟨_, _, _, rfl, by omega⟩
  obtain ⟨p, l, k, e, hl⟩ := hl
  have hset : ∀ q, Calls Tryz.prog 142 #[.slice none 0 0, nv xo m] (w.drewN q) (NRes (w.drewN q) none (vl x m)) := fun q => set_any none xo 0 m (fun _ => 0) x (w.drewN q) rfl (by rcases xo with _ | ⟨b, c⟩ <;> exact hx) (by omega) hx0
  rw [e] at hset ⊢
  clear e hx hx0
  replace hset := Lib.hid hset
  go_enter Tryz.func152, Tryz.ntmps152
  go_wp2_with (first
    | (go_at_call 180; refine (same_nil _ _ _ hl _).mono ?_; rintro e w' ⟨rfl, q, rfl⟩)
    | (go_at_call 181; refine (alias_nil _ _ _ _).mono ?_; rintro e w' ⟨rfl, q2, rfl⟩)
    | (go_at_call 142; refine (hset.out _).mono ?_; rintro e w2 ⟨o, k, f, rfl, hres⟩; have hres := Lib.hid hres))
  go_ret
  exact NRes.drewN ⟨o, _, f, rfl, hres.out⟩
theorem lsh_zero (zo : Option (Nat × Nat)) (mz : Nat) (a : Option Addr) (c s : Nat) (fz : Nat → Nat) (w : World) (hz : Nt w zo mz fz) (hs : 1 ≤ s) (hs2 : s ≤ 100000000) :
    Calls Tryz.prog 152 #[nv zo mz, .slice a 0 c, .int .u64 (s : Int)] w (NRes w zo 0) := by
  have s0 : ((s : Int) == 0) = false := beq0_false (by omega)
  rcases zo with _ | ⟨b, zc⟩
  · have hres : NRes w none 0 (.returned (.slice none 0 0)) w := ⟨none, 0, fz, rfl, rfl, rfl, .inl rfl, Own.self _ _, Turn.refl _ _⟩
    replace hres := Lib.hid hres
    clear hz
    show Calls Tryz.prog 152 #[.slice none 0 0, .slice a 0 c, .int .u64 (s : Int)] w (NRes w none 0)
    go_enter Tryz.func152, Tryz.ntmps152
    go_wp2_with fail
    go_ret
    exact hres.out
  · have hres : NRes w (some (b, zc)) 0 (.returned (.slice (some ⟨b, 0, none⟩) 0 zc)) w := ⟨some (b, zc), 0, fz, rfl, ⟨Nat.zero_le _, hz.2⟩, rfl, .inl rfl, Own.self _ _, Turn.refl _ _⟩
    replace hres := Lib.hid hres
    have h1 := hz.1
    clear hz
    show Calls Tryz.prog 152 #[.slice (some ⟨b, 0, none⟩) mz zc, .slice a 0 c, .int .u64 (s : Int)] w (NRes w (some (b, zc)) 0)
    go_enter Tryz.func152, Tryz.ntmps152
    go_wp2_with fail
    go_ret
    exact hres.out
theorem lsh_any (zo xo : Option (Nat × Nat)) (mz m s : Nat) (fz x : Nat → Nat) (w : World) (hz : Nt w zo mz fz) (hx : Nt w xo m x) (hm : m ≤ 100000) (hx0 : Nrm x m) (hs : s ≤ 6400000) (h0 : s = 0 → zo = none) :
    Calls Tryz.prog 152 #[nv zo mz, nv xo m, .int .u64 (s : Int)] w (NRes w zo (vl x m * 2 ^ s)) := by
  rcases Nat.eq_zero_or_pos s with rfl | hs1
  · obtain rfl := h0 rfl
    have : vl x m * 2 ^ 0 = vl x m := by simp
    rw [this]
    exact lsh_none xo m x w hx hm hx0
  · rcases Nat.eq_zero_or_pos m with rfl | hm1
    · have : vl x 0 * 2 ^ s = 0 := by simp [vl]
      rw [this]
      rcases xo with _ | ⟨b, c⟩
      · exact lsh_zero zo mz none 0 s fz w hz hs1 (by omega)
      · exact lsh_zero zo mz _ c s fz w hz hs1 (by omega)
    · rcases xo with _ | ⟨b, c⟩
      · have : m = 0 := hx; omega
      · rcases Nat.eq_zero_or_pos (s % 64) with h | h
        · exact lsh_words zo mz b c m s (s / 64) fz x w hz hx hm1 hm (by omega) (by omega) (by omega)
        · exact lsh_bits zo mz b c m s (s / 64) (s % 64) (64 - s % 64) fz x w hz hx hm1 hm (by omega) (by omega) h (by omega) (by omega)
end
end Go.Proofs.YtllapbkoildfiaaGreatFmt
