/- Natural numbers of big: and with one word, into a new number; bitLen, trailingZeroBits, low64; cmp. -/
import Derived.Test.YtllapbkoildfiaaGreatFmtM12
import Derived.Lib.TrailingZeros
set_option linter.all false
namespace Go.Proofs.YtllapbkoildfiaaGreatFmt
section
open Go.RowKit
theorem and_mask (a : Nat) (ha : a < 18446744073709551616) : bits .and .u64 (a : Int) ((1073741823 : Nat) : Int) = ((a % 1073741824 : Nat) : Int) := by
  rw [u64_and_nat _ _ ha (by omega)]
  have := Nat.and_two_pow_sub_one_eq_mod a 30
  rw [show (2 : Nat) ^ 30 - 1 = 1073741823 by decide, show (2 : Nat) ^ 30 = 1073741824 by decide] at this
  rw [this]
set_option maxRecDepth 100000 in
set_option maxHeartbeats 1000000 in
theorem and_low (xb xc m yb yc : Nat) (x y : Nat → Nat) (w : World) (hx : Wd w xb 0 m x) (hm1 : 1 ≤ m) (hm : m ≤ 100000) (hy : Wd w yb 0 1 y) (hyd : y 0 = 1073741823) :
    Calls Tryz.prog 155 #[.slice none 0 0, .slice (some ⟨xb, 0, none⟩) m xc, .slice (some ⟨yb, 0, none⟩) 1 yc] w (NRes w none (vl x m % 1073741824)) := by
  have hmk : Calls Tryz.prog 171 #[.slice none 0 0, .int .i64 1] w _ := make_any none 0 1 (fun _ => 0) w rfl (by omega) (by omega)
  have hv : x 0 % 1073741824 = vl x m % 1073741824 := by
    rw [vl_head x m hm1]; omega
  have ho := and_mask (x 0) (hx 0 (by omega)).2.2
  rw [hv] at ho
  replace hv := Lib.hid hv
  replace hx := Lib.hid hx
  replace hy := Lib.hid hy
  replace hyd := Lib.hid hyd
  generalize hd : vl x m % 1073741824 = d at *
  have hd2 : d < 1073741824 := by omega
  replace hd := Lib.hid hd
  have ho : bits .and .u64 (x 0 : Int) 1073741823 = (d : Int) := ho
  have go_on : ∀ (_ : m = 1 ∨ 1 < m), Calls Tryz.prog 155 #[.slice none 0 0, .slice (some ⟨xb, 0, none⟩) m xc, .slice (some ⟨yb, 0, none⟩) 1 yc] w (NRes w none d) := by
    intro hcase
    rcases hcase with rfl | h1
    all_goals
      go_enter Tryz.func155, Tryz.ntmps155
      go_wp2_with (go_at_call 171; refine hmk.mono ?_; rintro e w1 ⟨zb, c, f, rfl, hroom⟩
                   have hle := hroom.out.le
                   have hcap := hroom.out.cap
                   have hc1 := hroom.out.wd 0 (by omega)
                   rw [Nat.zero_add] at hc1
                   have cz := hc1.1
                   have fz := hc1.2.1
                   clear hc1
                   have cx := ((hx.out.still hroom.out.turn) 0 (by omega)).1
                   have cy := ((hy.out.still hroom.out.turn) 0 (by omega)).1
                   rw [Nat.zero_add] at cx cy
                   rw [hyd.out] at cy
                   have cy : w1.cell? ⟨yb, 0, none⟩ = some (.int .u64 1073741823) := cy)
      go_loopw [9] (fun vi wr => (vi = .int .i64 0 ∧ wr = w1) ∨ (vi = .int .i64 1 ∧ wr = (w1.setCell ⟨zb, 0, none⟩ (.int .u64 (d : Int))).drew)) (fun vi _ => 1 - (intOf vi).toNat)
      case atStart => exact .inl ⟨rfl, rfl⟩
      case round =>
        rcases hrel with ⟨rfl, rfl⟩ | ⟨rfl, rfl⟩
        · go_wp2_with fail
          go_region
          all_goals go_wp2_with fail
          all_goals go_roundw
          case rel => exact .inr ⟨rfl, by trivial⟩
          case measure => simp [intOf]
        · have hg : Wd ((w1.setCell ⟨zb, 0, none⟩ (.int .u64 (d : Int))).drew) zb 0 1 (fun _ => d) := by
            have := (hroom.out.wd.mono hle).put (k := 0) (v := d) (by omega) (by omega)
            rw [Nat.zero_add] at this
            exact this.congr fun i hi => by obtain rfl : i = 0 := by omega
                                            rfl
          have hr : Rw zb 0 1 w1 ((w1.setCell ⟨zb, 0, none⟩ (.int .u64 (d : Int))).drew) := ((Rw.refl zb 0 1 w1).set (Nat.zero_le _) (by omega) _).drew
          have hfin := Lib.hid (hroom.out.res (v := d) (by omega) hr hg (Nat.le_refl _) (by rw [vl_one]))
          have hnn := norm_some zb c 1 _ _ hle hcap hg
          clear hg hr
          go_wp2_with (go_at_call 182; refine hnn.mono ?_; rintro e w' ⟨rfl, rfl⟩)
          go_ret
          exact hfin.out
  exact go_on (by omega)
end
end Go.Proofs.YtllapbkoildfiaaGreatFmt
