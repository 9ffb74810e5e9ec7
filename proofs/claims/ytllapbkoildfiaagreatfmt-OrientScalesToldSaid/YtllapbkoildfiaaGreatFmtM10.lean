/- Natural numbers of big: the walk of sub. -/
import Derived.Test.YtllapbkoildfiaaGreatFmtM09
set_option linter.all false
namespace Go.Proofs.YtllapbkoildfiaaGreatFmt
section
open Go.RowKit
theorem sub_join {n m c1 : Nat} {g x y : Nat → Nat} {c2 : Nat} (hmn : n ≤ m) (hc1 : c1 ≤ 1) (h1 : vl g n + vl y n = vl x n + c1 * 18446744073709551616 ^ n) (h2 : c2 = scr (fun i => x (n + i)) c1 (m - n))
    (hx : ∀ i, i < m → x i < 18446744073709551616) :
    vl (jn n g (sw (fun i => x (n + i)) c1)) m + vl y n = vl x m + c2 * 18446744073709551616 ^ m := by
  obtain ⟨q, rfl⟩ : ∃ q, m = n + q := ⟨m - n, by omega⟩
  rw [Nat.add_sub_cancel_left] at h2
  have h3 := vl_sw (x := fun i => x (n + i)) (y := c1) (n := q) (by omega) (fun i hi => hx (n + i) (by omega))
  rw [← h2] at h3
  rw [vl_jn, vl_add x n q, Nat.pow_add]
  generalize vl (sw (fun i => x (n + i)) c1) q = A at *
  generalize vl (fun i => x (n + i)) q = B at *
  generalize 18446744073709551616 ^ q = Q at *
  generalize 18446744073709551616 ^ n = P at *
  have e2 : P * A + P * c1 = P * B + c2 * (P * Q) := by rw [Nat.mul_left_comm, ← Nat.mul_add, ← Nat.mul_add, h3]
  have e3 := Nat.mul_comm c1 P
  omega
theorem sub_end {T X Y c P : Nat} (h : T + Y = X + c * P) (hT : T < P) (hYX : Y ≤ X) (hc : c ≤ 1) : c = 0 ∧ T = X - Y := by
  rcases Nat.eq_zero_or_pos c with e | e
  · subst e; exact ⟨rfl, by omega⟩
  · obtain rfl : c = 1 := by omega
    omega
theorem scr_one {x : Nat → Nat} {y : Nat} (hy : y ≤ 1) {k : Nat} : scr x y k ≤ 1 := by
  cases k with
  | zero => exact hy
  | succ k => exact scr_le
set_option maxRecDepth 100000 in
set_option maxHeartbeats 1000000 in
theorem sub_long (zo : Option (Nat × Nat)) (mz xb xc m yb yc n : Nat) (fz x y : Nat → Nat) (w : World) (hz : Nt w zo mz fz) (hx : Nt w (some (xb, xc)) m x) (hy : Nt w (some (yb, yc)) n y) (hn : 1 ≤ n) (hmn : n ≤ m) (hm : m ≤ 100000) (hv : vl y n ≤ vl x m) :
    Calls Tryz.prog 153 #[nv zo mz, .slice (some ⟨xb, 0, none⟩) m xc, .slice (some ⟨yb, 0, none⟩) n yc] w (NRes w zo (vl x m - vl y n)) := by
  have hmk := make_any zo mz m fz w hz (by omega) (by omega)
  have hl : ∃ a l k, nv zo mz = .slice a l k := by rcases zo with _ | ⟨b, c⟩ <;> exact ⟨_, _, _, rfl⟩
  obtain ⟨a, l, k, e⟩ := hl
  rw [e] at hmk ⊢
  have hx1 := hx.1
  have hy1 := hy.1
  have m0 : ((m : Int) == 0) = false := beq0_false (by omega)
  have n0 : ((n : Int) == 0) = false := beq0_false (by omega)
  have e183 := tw183
  have hbd := Lib.hid hx.bd
  have hv := Lib.hid hv
  clear e hz
  have hx := Lib.hid hx
  have hy := Lib.hid hy
  have hnx : n ≤ xc := by omega
  by_cases hgt : n < m
  · go_enter Tryz.func153, Tryz.ntmps153
    go_wp2_with (go_at_call 171; refine hmk.mono ?_; rintro e w1 ⟨zb, c, f, rfl, hroom⟩; have hle := hroom.out.le; have hcap := hroom.out.cap; have hnc : n ≤ c := by omega)
    go_still_tail 9, (by kernel_rfl)
    change wpList _ _ _ _ _ w1.drew
    have hZ := Lib.hid hroom.out.wd.drew
    have hX := Lib.hid (hx.out.2.2.2.1.still hroom.out.turn).drew
    have hY := Lib.hid (hy.out.2.2.2.1.still hroom.out.turn).drew
    have hPx := Lib.hid (show Plain w1.drew xb from (show Plain w1 xb from hx.out.2.2.2.2.still hroom.out.turn))
    have hR0 := Lib.hid (Rw.refl zb 0 m w1).drew
    have hPz := Lib.hid (show Plain w1.drew zb from hroom.out.pl)
    generalize w1.drew = wd at hZ hX hY hPx hPz hR0 ⊢
    have hVV := subVV_any zb 0 c xb 0 xc yb 0 yc n f x y wd (by omega) (hZ.out.mono hnc) (hX.out.mono (by omega)) (hY.out.mono hy1) (fun _ => Nat.le_refl _) (fun _ => Nat.le_refl _)
    go_wp2_with (go_at_call 87; refine hVV.mono ?_; rintro e wa ⟨c1, g, rfl, hc1, hrA, hgA, hvA⟩; have hrA := Lib.hid hrA; have hgA := Lib.hid hgA; have hvA := Lib.hid hvA)
    clear hVV
    have hnx2 : n < xc := by omega
    have hmc : n < c := by omega
    go_still_tail 7, (by kernel_rfl)
    change wpList _ _ _ _ _ wa.drew
    have hrA := Lib.hid (hrA.out.drew)
    have hgA := Lib.hid (hgA.out.drew)
    generalize wa.drew = wb at hrA hgA ⊢
    have hW : Calls Tryz.prog 184 #[.slice (some ⟨zb, n, none⟩) (m - n) (c - n), .slice (some ⟨xb, n, none⟩) (m - n) (xc - n), .int .u64 (c1 : Int)] wb (SwPost zb n (m - n) c1 (fun i => x (n + i)) wb) := by
      obtain ⟨q, hq⟩ : ∃ q, m - n = q + 1 := ⟨m - n - 1, by omega⟩
      rw [hq]
      refine subVW_any zb n (c - n) xb n (xc - n) q c1 (fun i => f (n + i)) (fun i => x (n + i)) wb (by omega) (fun i hi => ?_) (fun i hi => ?_) (fun _ => rfl) (by omega) (by omega) (hrA.out.plain hPz.out) (hrA.out.plain hPx.out) (by omega)
      · have := hX.out.rw hrA.out (i := n + i) (by omega) (fun _ => by omega)
        rw [Nat.zero_add] at this; exact this
      · have := hZ.out.rw hrA.out (i := n + i) (by omega) (fun _ => by omega)
        rw [Nat.zero_add] at this; exact this
    have hsum := sub_join (Nat.le_of_lt hgt) hc1 hvA.out rfl (fun i hi => hbd.out i hi)
    have hTlt : vl (jn n g (sw (fun i => x (n + i)) c1)) m < 18446744073709551616 ^ m := vl_lt fun i hi => by
      unfold jn
      split
      · exact (hgA.out i (by assumption)).2.2
      · exact sw_lt _ _ _
    obtain ⟨hc0, hT⟩ := sub_end hsum hTlt hv.out (scr_one hc1)
    rw [hc0] at hsum
    have hc0 := Lib.hid hc0
    have hT := Lib.hid hT
    clear hsum hTlt
    go_wp2_with (go_at_call 184; refine hW.mono ?_; rintro e wc ⟨rfl, hrC, hgC⟩; rw [hc0.out]; have hrC := Lib.hid hrC; have hgC := Lib.hid hgC)
    have hrT : Rw zb 0 m w1 wc := ((hR0.out.trans (hrA.out.mono (Nat.zero_le _) (by omega))).trans (hrC.out.mono (Nat.zero_le _) (by omega)))
    have hgT := (((hgA.out.rwAll hrC.out (fun i hi _ => by omega)).jn (k := m - n) (g := sw (fun i => x (n + i)) c1) (by rw [Nat.zero_add]; exact hgC.out)))
    rw [show n + (m - n) = m by omega] at hgT
    have hfin := Lib.hid (hroom.out.res (v := vl x m - vl y n) (by omega) hrT hgT (Nat.le_refl _) hT.out)
    have hnorm := norm_some zb c m _ _ hle hcap hgT
    refine hnorm.mono ?_
    rintro e w9 ⟨rfl, rfl⟩
    go_wp2_with fail
    go_ret
    exact hfin.out
  · obtain rfl : m = n := by omega
    go_enter Tryz.func153, Tryz.ntmps153
    go_wp2_with (go_at_call 171; refine hmk.mono ?_; rintro e w1 ⟨zb, c, f, rfl, hroom⟩; have hle := hroom.out.le; have hcap := hroom.out.cap)
    go_still_tail 9, (by kernel_rfl)
    change wpList _ _ _ _ _ w1.drew
    have hZ := Lib.hid hroom.out.wd.drew
    have hX := Lib.hid (hx.out.2.2.2.1.still hroom.out.turn).drew
    have hY := Lib.hid (hy.out.2.2.2.1.still hroom.out.turn).drew
    have hR0 := Lib.hid (Rw.refl zb 0 m w1).drew
    generalize w1.drew = wd at hZ hX hY hR0 ⊢
    have hVV := subVV_any zb 0 c xb 0 xc yb 0 yc m f x y wd (by omega) (hZ.out.mono hle) (hX.out.mono hx1) (hY.out.mono hy1) (fun _ => Nat.le_refl _) (fun _ => Nat.le_refl _)
    go_wp2_with (first
      | (go_at_call 87; refine hVV.mono ?_; rintro e wa ⟨c1, g, rfl, hc1, hrA, hgA, hvA⟩; obtain ⟨rfl, hT⟩ := sub_end hvA (vl_lt fun i hi => (hgA i hi).2.2) hv.out hc1
         have hrA := Lib.hid hrA; have hgA := Lib.hid hgA; have hT := Lib.hid hT; clear hvA))
    have hrT : Rw zb 0 m w1 wa := hR0.out.trans (hrA.out.mono (Nat.zero_le _) (by omega))
    have hfin := Lib.hid (hroom.out.res (v := vl x m - vl y m) (by omega) hrT hgA.out (Nat.le_refl _) hT.out)
    have hnorm := norm_some zb c m _ _ hle hcap hgA.out
    refine hnorm.mono ?_
    rintro e w9 ⟨rfl, rfl⟩
    go_wp2_with fail
    go_ret
    exact hfin.out
end
end Go.Proofs.YtllapbkoildfiaaGreatFmt
