/- The walks of addVV and subVV · The walks of mulAddVWW and addMulVVWW · The walks of lshVU and rshVU · Natural numbers of big, as values: make, norm, set; copy and clear on words. -/
import Derived.Test.YtllapbkoildfiaaGreatFmtM06
import Derived.Deep.QuietTactic
import Derived.BigQuiet
import Derived.Deep.LoopGhost
import Derived.RegionTactic
import Derived.BigRegion
import Derived.Lib.SliceRun
import Derived.Laws.IdiomCopy
import Derived.Laws.MakeOwn
set_option linter.all false
namespace Go.Proofs.YtllapbkoildfiaaGreatFmt
section
open Go.RowKit
theorem quiet2 {P : Program} {f : FuncId} {args : Array Value} {w : World} {a n : Nat} {v : Value} (h : ∀ W : World, Calls P f args W fun e w' => e = .returned v ∧ W = w') :
    Calls P f args (w.drewN (a + n)) fun e w'' => e = .returned v ∧ ∃ m, w'' = w.drewN (a + m) :=
  (h _).mono fun _ _ ⟨he, hm⟩ => ⟨he, n, hm.symm⟩
theorem quiet1 {P : Program} {f : FuncId} {args : Array Value} {w : World} {n : Nat} {v : Value} (h : ∀ W : World, Calls P f args W fun e w' => e = .returned v ∧ W = w') :
    Calls P f args (w.drewN n) fun e w'' => e = .returned v ∧ ∃ m, w'' = w.drewN m :=
  (h _).mono fun _ _ ⟨he, hm⟩ => ⟨he, n, hm.symm⟩
def AddPost (zb zo n : Nat) (x y : Nat → Nat) (w : World) (e : Ending) (w' : World) : Prop :=
  ∃ (c : Nat) (g : Nat → Nat), e = .returned (.int .u64 (c : Nat)) ∧ c ≤ 1 ∧ Rw zb zo (zo + n) w w' ∧ Wd w' zb zo n g ∧ vl g n + c * 18446744073709551616 ^ n = vl x n + vl y n
def AddRel (zb zo : Nat) (x y : Nat → Nat) (w : World) (k cc : Nat) (wr : World) : Prop :=
  ∃ g : Nat → Nat, cc ≤ 1 ∧ Rw zb zo (zo + k) w wr ∧ Wd wr zb zo k g ∧ vl g k + cc * 18446744073709551616 ^ k = vl x k + vl y k
theorem add_pow {a c X Y x y P : Nat} (h : a + c * P = X + Y) : a + (x + y + c) % 18446744073709551616 * P + (x + y + c) / 18446744073709551616 * (18446744073709551616 * P) = X + x * P + (Y + y * P) := by
  have e : (x + y + c) % 18446744073709551616 * P + (x + y + c) / 18446744073709551616 * (18446744073709551616 * P) = (x + y + c) * P := by
    rw [← Nat.mul_assoc, ← Nat.add_mul]
    congr 1
    omega
  rw [Nat.add_assoc, e, Nat.add_mul, Nat.add_mul]
  omega
theorem AddRel.step {zb zo n : Nat} {f x y : Nat → Nat} {w : World} {k cc : Nat} {wr : World} {m : Nat} (h : AddRel zb zo x y w k cc wr) (hz : Wd w zb zo n f) (hk : k < n) (hx : x k < 18446744073709551616) (hy : y k < 18446744073709551616) :
    AddRel zb zo x y w (k + 1) ((x k + y k + cc) / 18446744073709551616) ((wr.drewN m).setCell ⟨zb, zo + k, none⟩ (.int .u64 (((x k + y k + cc) % 18446744073709551616 : Nat) : Int))) := by
  obtain ⟨g, hc, hr, hg, he⟩ := h
  have c := hz.rw hr hk (fun _ => by omega)
  refine ⟨_, ?_, ((hr.mono (Nat.le_refl _) (by omega)).drewN m).set (by omega) (by omega) _, (hg.drewN m).snoc c.1 c.2.1 (by omega), ?_⟩
  · omega
  · rw [vl_put, vl, vl, Nat.pow_succ, Nat.mul_comm (18446744073709551616 ^ k) 18446744073709551616]
    exact add_pow he
set_option maxHeartbeats 1000000 in
theorem addVV_any (zb zo zc xb xo xc yb yo yc n : Nat) (f x y : Nat → Nat) (w : World) (hn : n ≤ 1000000000) (hz : Wd w zb zo n f) (hx : Wd w xb xo n x) (hy : Wd w yb yo n y) (hxz : xb = zb → zo ≤ xo) (hyz : yb = zb → zo ≤ yo) :
    Calls Tryz.prog 86 #[.slice (some ⟨zb, zo, none⟩) n zc, .slice (some ⟨xb, xo, none⟩) n xc, .slice (some ⟨yb, yo, none⟩) n yc] w (AddPost zb zo n x y w) := by
  have hxz := Lib.hid hxz
  have hyz := Lib.hid hyz
  go_enter Tryz.func86, Tryz.ntmps86
  go_wp2
  go_loopw [6, 25] (fun vc vi wr => ∃ k cc : Nat, k ≤ n ∧ vi = .int .i64 k ∧ vc = .int .u64 cc ∧ AddRel zb zo x y w k cc wr) (fun _ vi _ => n - (intOf vi).toNat)
  case atStart => exact ⟨0, 0, Nat.zero_le _, rfl, rfl, fun _ => 0, Nat.zero_le _, Rw.refl _ _ _ _, fun _ h => absurd h (Nat.not_lt_zero _), rfl⟩
  case round =>
    obtain ⟨k, cc, hk, rfl, rfl, hrel⟩ := hrel
    by_cases hlt : k < n
    · have hst := fun m => hrel.step (m := m) hz hlt (hx k hlt).2.2 (hy k hlt).2.2
      obtain ⟨g, hc, hr, hg, he⟩ := hrel
      have cx := (hx.rw hr hlt (fun e => by have := hxz.out e; omega)).1
      have cy := (hy.rw hr hlt (fun e => by have := hyz.out e; omega)).1
      have cz := hz.rw hr hlt (fun _ => by omega)
      have cz1 := cz.1
      have cz2 := cz.2.1
      clear cz hg he hr
      have ca := add_any (x k) (y k) cc hc
      clear hc
      have hst := Lib.hid hst
      go_wp2_with fail
      go_quiet ((go_at_call 188; exact quiet1 ca))
      go_wp2_with fail
      go_roundw
      case rel => exact ⟨k + 1, _, by omega, by go_num, rfl, hst.out _⟩
      case measure => simp [intOf]; omega
    · obtain rfl : k = n := by omega
      have hrel := Lib.hid hrel
      go_wp2
      go_ret
      obtain ⟨g, hc, hr, hg, he⟩ := hrel.out
      exact ⟨cc, g, rfl, hc, hr, hg, he⟩
def SubPost (zb zo n : Nat) (x y : Nat → Nat) (w : World) (e : Ending) (w' : World) : Prop :=
  ∃ (c : Nat) (g : Nat → Nat), e = .returned (.int .u64 (c : Nat)) ∧ c ≤ 1 ∧ Rw zb zo (zo + n) w w' ∧ Wd w' zb zo n g ∧ vl g n + vl y n = vl x n + c * 18446744073709551616 ^ n
def SubRel (zb zo : Nat) (x y : Nat → Nat) (w : World) (k cc : Nat) (wr : World) : Prop :=
  ∃ g : Nat → Nat, cc ≤ 1 ∧ Rw zb zo (zo + k) w wr ∧ Wd wr zb zo k g ∧ vl g k + vl y k = vl x k + cc * 18446744073709551616 ^ k
theorem sub_pow {a c X Y x y P : Nat} (hx : x < 18446744073709551616) (hy : y < 18446744073709551616) (hc : c ≤ 1) (h : a + Y = X + c * P) :
    a + (x + 18446744073709551616 - y - c) % 18446744073709551616 * P + (Y + y * P) = X + x * P + (if x < y + c then 1 else 0) * (18446744073709551616 * P) := by
  have e : (x + 18446744073709551616 - y - c) % 18446744073709551616 * P + y * P + c * P = x * P + (if x < y + c then 1 else 0) * (18446744073709551616 * P) := by
    rw [← Nat.mul_assoc, ← Nat.add_mul, ← Nat.add_mul, ← Nat.add_mul]
    congr 1
    split <;> omega
  omega
theorem SubRel.step {zb zo n : Nat} {f x y : Nat → Nat} {w : World} {k cc : Nat} {wr : World} {m : Nat} (h : SubRel zb zo x y w k cc wr) (hz : Wd w zb zo n f) (hk : k < n) (hx : x k < 18446744073709551616) (hy : y k < 18446744073709551616) :
    SubRel zb zo x y w (k + 1) (if x k < y k + cc then 1 else 0) ((wr.drewN m).setCell ⟨zb, zo + k, none⟩ (.int .u64 (((x k + 18446744073709551616 - y k - cc) % 18446744073709551616 : Nat) : Int))) := by
  obtain ⟨g, hc, hr, hg, he⟩ := h
  have c := hz.rw hr hk (fun _ => by omega)
  refine ⟨_, ?_, ((hr.mono (Nat.le_refl _) (by omega)).drewN m).set (by omega) (by omega) _, (hg.drewN m).snoc c.1 c.2.1 (by omega), ?_⟩
  · split <;> omega
  · rw [vl_put, vl, vl, Nat.pow_succ, Nat.mul_comm (18446744073709551616 ^ k) 18446744073709551616]
    exact sub_pow hx hy hc he
set_option maxHeartbeats 1000000 in
theorem subVV_any (zb zo zc xb xo xc yb yo yc n : Nat) (f x y : Nat → Nat) (w : World) (hn : n ≤ 1000000000) (hz : Wd w zb zo n f) (hx : Wd w xb xo n x) (hy : Wd w yb yo n y) (hxz : xb = zb → zo ≤ xo) (hyz : yb = zb → zo ≤ yo) :
    Calls Tryz.prog 87 #[.slice (some ⟨zb, zo, none⟩) n zc, .slice (some ⟨xb, xo, none⟩) n xc, .slice (some ⟨yb, yo, none⟩) n yc] w (SubPost zb zo n x y w) := by
  have hxz := Lib.hid hxz
  have hyz := Lib.hid hyz
  go_enter Tryz.func87, Tryz.ntmps87
  go_wp2
  go_loopw [6, 25] (fun vc vi wr => ∃ k cc : Nat, k ≤ n ∧ vi = .int .i64 k ∧ vc = .int .u64 cc ∧ SubRel zb zo x y w k cc wr) (fun _ vi _ => n - (intOf vi).toNat)
  case atStart => exact ⟨0, 0, Nat.zero_le _, rfl, rfl, fun _ => 0, Nat.zero_le _, Rw.refl _ _ _ _, fun _ h => absurd h (Nat.not_lt_zero _), rfl⟩
  case round =>
    obtain ⟨k, cc, hk, rfl, rfl, hrel⟩ := hrel
    by_cases hlt : k < n
    · have hst := fun m => hrel.step (m := m) hz hlt (hx k hlt).2.2 (hy k hlt).2.2
      obtain ⟨g, hc, hr, hg, he⟩ := hrel
      have cx := (hx.rw hr hlt (fun e => by have := hxz.out e; omega)).1
      have cy := (hy.rw hr hlt (fun e => by have := hyz.out e; omega)).1
      have cz := hz.rw hr hlt (fun _ => by omega)
      have cz1 := cz.1
      have cz2 := cz.2.1
      clear cz hg he hr
      have ca := sub_any (x k) (y k) cc hc
      clear hc
      generalize (if x k < y k + cc then 1 else 0) = d at ca hst
      have hst := Lib.hid hst
      go_wp2_with fail
      go_quiet ((go_at_call 185; exact quiet1 ca))
      go_wp2_with fail
      go_roundw
      case rel => exact ⟨k + 1, d, by omega, by go_num, rfl, hst.out _⟩
      case measure => simp [intOf]; omega
    · obtain rfl : k = n := by omega
      have hrel := Lib.hid hrel
      go_wp2
      go_ret
      obtain ⟨g, hc, hr, hg, he⟩ := hrel.out
      exact ⟨cc, g, rfl, hc, hr, hg, he⟩
end
section
open Go.RowKit
def MulPost (zb zo n : Nat) (x : Nat → Nat) (y r : Nat) (w : World) (e : Ending) (w' : World) : Prop :=
  ∃ (c : Nat) (g : Nat → Nat), e = .returned (.int .u64 (c : Nat)) ∧ c < 18446744073709551616 ∧ Rw zb zo (zo + n) w w' ∧ Wd w' zb zo n g ∧ vl g n + c * 18446744073709551616 ^ n = vl x n * y + r
def MulRel (zb zo : Nat) (x : Nat → Nat) (y r : Nat) (w : World) (k cc : Nat) (wr : World) : Prop :=
  ∃ g : Nat → Nat, cc < 18446744073709551616 ∧ Rw zb zo (zo + k) w wr ∧ Wd wr zb zo k g ∧ vl g k + cc * 18446744073709551616 ^ k = vl x k * y + r
theorem mul_pow {a c X x y r P : Nat} (h : a + c * P = X * y + r) : a + (x * y + c) % 18446744073709551616 * P + (x * y + c) / 18446744073709551616 * (18446744073709551616 * P) = (X + x * P) * y + r := by
  have e : (x * y + c) % 18446744073709551616 * P + (x * y + c) / 18446744073709551616 * (18446744073709551616 * P) = (x * y + c) * P := by
    rw [← Nat.mul_assoc, ← Nat.add_mul]
    congr 1
    generalize x * y = p
    omega
  rw [Nat.add_assoc, e, Nat.add_mul, Nat.add_mul, Nat.mul_right_comm x y P]
  generalize x * P * y = q
  generalize X * y = p at h ⊢
  omega
theorem MulRel.step {zb zo n : Nat} {f x : Nat → Nat} {y r : Nat} {w : World} {k cc : Nat} {wr : World} (h : MulRel zb zo x y r w k cc wr) (hz : Wd w zb zo n f) (hk : k < n) (hx : x k < 18446744073709551616) (hy : y < 18446744073709551616) :
    MulRel zb zo x y r w (k + 1) ((x k * y + cc) / 18446744073709551616) (wr.setCell ⟨zb, zo + k, none⟩ (.int .u64 (((x k * y + cc) % 18446744073709551616 : Nat) : Int))) := by
  obtain ⟨g, hc, hr, hg, he⟩ := h
  have c := hz.rw hr hk (fun _ => by omega)
  refine ⟨_, (hi_mac _ _ _ hx hy hc).2.1, (hr.mono (Nat.le_refl _) (by omega)).set (by omega) (by omega) _, hg.snoc c.1 c.2.1 (Nat.mod_lt _ (by omega)), ?_⟩
  rw [vl_put, vl, Nat.pow_succ, Nat.mul_comm (18446744073709551616 ^ k) 18446744073709551616]
  exact mul_pow he
set_option maxHeartbeats 1000000 in
theorem mulAddVWW_any (zb zo zc xb xo xc n y r : Nat) (f x : Nat → Nat) (w : World) (hn : n ≤ 1000000000) (hz : Wd w zb zo n f) (hx : Wd w xb xo n x) (hxz : xb = zb → zo ≤ xo) (hy : y < 18446744073709551616) (hr0 : r < 18446744073709551616) :
    Calls Tryz.prog 90 #[.slice (some ⟨zb, zo, none⟩) n zc, .slice (some ⟨xb, xo, none⟩) n xc, .int .u64 (y : Int), .int .u64 (r : Int)] w (MulPost zb zo n x y r w) := by
  have hxz := Lib.hid hxz
  go_enter Tryz.func90, Tryz.ntmps90
  go_wp2
  go_loopw [8, 19] (fun vc vi wr => ∃ k cc : Nat, k ≤ n ∧ vi = .int .i64 k ∧ vc = .int .u64 cc ∧ MulRel zb zo x y r w k cc wr) (fun _ vi _ => n - (intOf vi).toNat)
  case atStart => exact ⟨0, r, Nat.zero_le _, rfl, rfl, fun _ => 0, hr0, Rw.refl _ _ _ _, fun _ h => absurd h (Nat.not_lt_zero _), by simp [vl]⟩
  case round =>
    obtain ⟨k, cc, hk, rfl, rfl, hrel⟩ := hrel
    by_cases hlt : k < n
    · have hst := hrel.step hz hlt (hx k hlt).2.2 hy
      obtain ⟨g, hc, hr, hg, he⟩ := hrel
      have cx := (hx.rw hr hlt (fun e => by have := hxz.out e; omega)).1
      have cz := hz.rw hr hlt (fun _ => by omega)
      have cz1 := cz.1
      have cz2 := cz.2.1
      clear cz hg he hr
      have ca := mac_any (x k) y cc (hx k hlt).2.2 hy hc
      clear hc
      generalize (x k * y + cc) / 18446744073709551616 = q1 at ca hst
      generalize (x k * y + cc) % 18446744073709551616 = q2 at ca hst
      have hst := Lib.hid hst
      go_wp2_with (go_at_call 222; refine (ca _).mono ?_; rintro e w' ⟨rfl, rfl⟩)
      go_roundw
      case rel => exact ⟨k + 1, q1, by omega, by go_num, rfl, hst.out⟩
      case measure => simp [intOf]; omega
    · obtain rfl : k = n := by omega
      have hrel := Lib.hid hrel
      go_wp2
      go_ret
      obtain ⟨g, hc, hr, hg, he⟩ := hrel.out
      exact ⟨cc, g, rfl, hc, hr, hg, he⟩
def AmPost (zb zo n : Nat) (x y : Nat → Nat) (m a : Nat) (w : World) (e : Ending) (w' : World) : Prop :=
  ∃ (c : Nat) (g : Nat → Nat), e = .returned (.int .u64 (c : Nat)) ∧ c < 18446744073709551616 ∧ Rw zb zo (zo + n) w w' ∧ Wd w' zb zo n g ∧ vl g n + c * 18446744073709551616 ^ n = vl x n + vl y n * m + a
def AmRel (zb zo : Nat) (x y : Nat → Nat) (m a : Nat) (w : World) (k cc : Nat) (wr : World) : Prop :=
  ∃ g : Nat → Nat, cc < 18446744073709551616 ∧ Rw zb zo (zo + k) w wr ∧ Wd wr zb zo k g ∧ vl g k + cc * 18446744073709551616 ^ k = vl x k + vl y k * m + a
theorem am_hi (y m x c : Nat) (hy : y < 18446744073709551616) (hm : m < 18446744073709551616) (hx : x < 18446744073709551616) (hc : c < 18446744073709551616) :
    (y * m + x) / 18446744073709551616 + ((y * m + x) % 18446744073709551616 + c) / 18446744073709551616 = (y * m + x + c) / 18446744073709551616 ∧ (y * m + x + c) / 18446744073709551616 < 18446744073709551616 ∧
    ((y * m + x) % 18446744073709551616 + c) % 18446744073709551616 = (y * m + x + c) % 18446744073709551616 ∧ ((y * m + x) % 18446744073709551616 + c) / 18446744073709551616 ≤ 1 := by
  have h1 : y * m ≤ 18446744073709551615 * 18446744073709551615 := Nat.mul_le_mul (by omega) (by omega)
  generalize y * m = p at *
  omega
theorem am_pow {a c X Y x y m r P : Nat} (h : a + c * P = X + Y * m + r) : a + (y * m + x + c) % 18446744073709551616 * P + (y * m + x + c) / 18446744073709551616 * (18446744073709551616 * P) = X + x * P + (Y + y * P) * m + r := by
  have e : (y * m + x + c) % 18446744073709551616 * P + (y * m + x + c) / 18446744073709551616 * (18446744073709551616 * P) = (y * m + x + c) * P := by
    rw [← Nat.mul_assoc, ← Nat.add_mul]
    congr 1
    generalize y * m = p
    omega
  rw [Nat.add_assoc, e, Nat.add_mul, Nat.add_mul, Nat.add_mul, Nat.mul_right_comm y m P]
  generalize y * P * m = q
  generalize Y * m = p at h ⊢
  omega
theorem AmRel.step {zb zo n : Nat} {f x y : Nat → Nat} {m a : Nat} {w : World} {k cc : Nat} {wr : World} (h : AmRel zb zo x y m a w k cc wr) (hz : Wd w zb zo n f) (hk : k < n) (hx : x k < 18446744073709551616) (hy : y k < 18446744073709551616) (hm : m < 18446744073709551616) :
    AmRel zb zo x y m a w (k + 1) ((y k * m + x k + cc) / 18446744073709551616) (wr.setCell ⟨zb, zo + k, none⟩ (.int .u64 (((y k * m + x k + cc) % 18446744073709551616 : Nat) : Int))) := by
  obtain ⟨g, hc, hr, hg, he⟩ := h
  have c := hz.rw hr hk (fun _ => by omega)
  refine ⟨_, (am_hi _ _ _ _ hy hm hx hc).2.1, (hr.mono (Nat.le_refl _) (by omega)).set (by omega) (by omega) _, hg.snoc c.1 c.2.1 (Nat.mod_lt _ (by omega)), ?_⟩
  rw [vl_put, vl, vl, Nat.pow_succ, Nat.mul_comm (18446744073709551616 ^ k) 18446744073709551616]
  exact am_pow he
theorem AmRel.drewN {zb zo : Nat} {x y : Nat → Nat} {m a : Nat} {w : World} {k cc : Nat} {wr : World} (h : AmRel zb zo x y m a w k cc wr) (q : Nat) : AmRel zb zo x y m a w k cc (wr.drewN q) := by
  obtain ⟨g, hc, hr, hg, he⟩ := h
  exact ⟨g, hc, hr.drewN q, hg.drewN q, he⟩
set_option maxHeartbeats 1000000 in
theorem addMulVVWW_any (zb zo zc xb xo xc yb yo yc n m a : Nat) (f x y : Nat → Nat) (w : World) (hn : n ≤ 1000000000) (hz : Wd w zb zo n f) (hx : Wd w xb xo n x) (hy : Wd w yb yo n y) (hxz : xb = zb → zo ≤ xo) (hyz : yb ≠ zb) (hm : m < 18446744073709551616) (ha0 : a < 18446744073709551616) :
    Calls Tryz.prog 91 #[.slice (some ⟨zb, zo, none⟩) n zc, .slice (some ⟨xb, xo, none⟩) n xc, .slice (some ⟨yb, yo, none⟩) n yc, .int .u64 (m : Int), .int .u64 (a : Int)] w (AmPost zb zo n x y m a w) := by
  have hxz := Lib.hid hxz
  go_enter Tryz.func91, Tryz.ntmps91
  go_wp2
  go_loopw [10, 32] (fun vc vi wr => ∃ k cc : Nat, k ≤ n ∧ vi = .int .i64 k ∧ vc = .int .u64 cc ∧ AmRel zb zo x y m a w k cc wr) (fun _ vi _ => n - (intOf vi).toNat)
  case atStart => exact ⟨0, a, Nat.zero_le _, rfl, rfl, fun _ => 0, ha0, Rw.refl _ _ _ _, fun _ h => absurd h (Nat.not_lt_zero _), by simp [vl]⟩
  case round =>
    obtain ⟨k, cc, hk, rfl, rfl, hrel⟩ := hrel
    by_cases hlt : k < n
    · have hst := fun q => (hrel.drewN q).step hz hlt (hx k hlt).2.2 (hy k hlt).2.2 hm
      obtain ⟨g, hc, hr, hg, he⟩ := hrel
      have cx := (hx.rw hr hlt (fun e => by have := hxz.out e; omega)).1
      have cy := (hy.rw hr hlt (fun e => absurd e hyz)).1
      have cz := hz.rw hr hlt (fun _ => by omega)
      have cz1 := cz.1
      have cz2 := cz.2.1
      clear cz hg he hr
      have ca := mac_any (y k) m (x k) (hy k hlt).2.2 hm (hx k hlt).2.2
      have cb := add_any ((y k * m + x k) % 18446744073709551616) cc 0 (by omega)
      obtain ⟨h1, h2, h3, h4⟩ := am_hi (y k) m (x k) cc (hy k hlt).2.2 hm (hx k hlt).2.2 hc
      have ew : IntKind.u64.wrap (((((y k * m + x k) % 18446744073709551616 + cc + 0) / 18446744073709551616 : Nat) : Int) + (((y k * m + x k) / 18446744073709551616 : Nat) : Int)) = (((y k * m + x k + cc) / 18446744073709551616 : Nat) : Int) := by
        rw [addN, Nat.add_zero, Nat.add_comm, h1, wrapN _ h2]
      rw [Nat.add_zero, h3] at cb
      rw [Nat.add_zero] at ew
      clear hc h1 h2 h3 h4
      generalize (y k * m + x k + cc) % 18446744073709551616 = q2 at *
      generalize (y k * m + x k + cc) / 18446744073709551616 = q1 at *
      generalize ((y k * m + x k) % 18446744073709551616 + cc) / 18446744073709551616 = q3 at *
      generalize (y k * m + x k) % 18446744073709551616 = q4 at *
      generalize (y k * m + x k) / 18446744073709551616 = q5 at *
      have hst := Lib.hid hst
      go_wp2_with fail
      go_quiet ((go_at_call 222; exact quiet1 ca))
      go_wp2_with (go_at_call 188; refine (cb _).mono ?_; rintro e w' ⟨rfl, rfl⟩)
      go_roundw
      case rel => exact ⟨k + 1, q1, by omega, by go_num, rfl, hst.out _⟩
      case measure => simp [intOf]; omega
    · obtain rfl : k = n := by omega
      have hrel := Lib.hid hrel
      go_wp2
      go_ret
      obtain ⟨g, hc, hr, hg, he⟩ := hrel.out
      exact ⟨cc, g, rfl, hc, hr, hg, he⟩
end
section
open Go.RowKit
structure LRel (zb zo n s t : Nat) (x : Nat → Nat) (w : World) (k : Nat) (wr : World) : Prop where
  rw : Rw zb (zo + k + 1) (zo + n + 1) w wr
  done : ∀ j, k < j → j ≤ n → wr.cell? ⟨zb, zo + j, none⟩ = some (.int .u64 ((lw x s t j : Nat) : Int)) ∧ wr.frozen? ⟨zb, zo + j, none⟩ = false
theorem LRel.step {zb zo n s t : Nat} {x : Nat → Nat} {w wr : World} {k : Nat} {u : Value} (h : LRel zb zo n s t x w (k + 1) wr) (hk : k + 1 ≤ n)
    (hc : wr.cell? ⟨zb, zo + (k + 1), none⟩ = some u) (hf : wr.frozen? ⟨zb, zo + (k + 1), none⟩ = false) :
    LRel zb zo n s t x w k (wr.setCell ⟨zb, zo + (k + 1), none⟩ (.int .u64 ((lw x s t (k + 1) : Nat) : Int))).drew := by
  refine ⟨((h.rw.mono (by omega) (Nat.le_refl _)).set (by omega) (by omega) _).drew, fun j h1 h2 => ?_⟩
  rcases Nat.lt_or_ge (k + 1) j with g | g
  · refine ⟨(World.cell?_setCell_other _ _ _ _ (by intro e; simp at e <;> omega)).trans (h.done j g h2).1, ?_⟩
    show (wr.setCell _ _).frozen? _ = false
    rw [World.frozen?_setCell]; exact (h.done j g h2).2
  · obtain rfl : j = k + 1 := by omega
    refine ⟨World.cell?_setCell_same _ _ _ hc, ?_⟩
    show (wr.setCell _ _).frozen? _ = false
    rw [World.frozen?_setCell]; exact hf
def LshPost (zb zo n s t : Nat) (x : Nat → Nat) (w : World) (e : Ending) (w' : World) : Prop :=
  e = .returned (.int .u64 ((x n / 2 ^ t : Nat) : Int)) ∧ Rw zb zo (zo + n + 1) w w' ∧ Wd w' zb zo (n + 1) (lw x s t)
theorem LRel.last {zb zo n s t : Nat} {x : Nat → Nat} {w wr : World} {u : Value} (h : LRel zb zo n s t x w 0 wr) (hst : s + t = 64) (hx : ∀ i, i < n + 1 → x i < 18446744073709551616)
    (hc : wr.cell? ⟨zb, zo, none⟩ = some u) (hf : wr.frozen? ⟨zb, zo, none⟩ = false) :
    Rw zb zo (zo + n + 1) w (wr.setCell ⟨zb, zo, none⟩ (.int .u64 (IntKind.u64.wrap ((x 0 : Int) * 2 ^ s)))) ∧ Wd (wr.setCell ⟨zb, zo, none⟩ (.int .u64 (IntKind.u64.wrap ((x 0 : Int) * 2 ^ s)))) zb zo (n + 1) (lw x s t) := by
  have e : IntKind.u64.wrap ((x 0 : Int) * 2 ^ s) = ((lw x s t 0 : Nat) : Int) := by
    rw [wrap_mul_two, shl_mod _ s t hst]
    rfl
  rw [e]
  refine ⟨(h.rw.mono (by omega) (Nat.le_refl _)).set (by omega) (by omega) _, fun j hj => ?_⟩
  have hl : lw x s t j < 18446744073709551616 := lw_lt hst (hx (j - 1) (by omega))
  rcases j with _ | j
  · exact ⟨World.cell?_setCell_same _ _ _ hc, by rw [World.frozen?_setCell]; exact hf, hl⟩
  · exact ⟨(World.cell?_setCell_other _ _ _ _ (by intro e; simp at e)).trans (h.done (j + 1) (by omega) (by omega)).1, by rw [World.frozen?_setCell]; exact (h.done (j + 1) (by omega) (by omega)).2, hl⟩
set_option maxHeartbeats 1000000 in
theorem lshVU_any (zb zo zc xb xo xc n s t : Nat) (f x : Nat → Nat) (w : World) (hn : n + 1 ≤ 1000000000) (hz : Wd w zb zo (n + 1) f) (hx : Wd w xb xo (n + 1) x) (hxz : xb = zb → xo ≤ zo) (hst : s + t = 64) (hs1 : 1 ≤ s) (ht1 : 1 ≤ t) :
    Calls Tryz.prog 88 #[.slice (some ⟨zb, zo, none⟩) (n + 1) zc, .slice (some ⟨xb, xo, none⟩) (n + 1) xc, .int .u64 (s : Int)] w (LshPost zb zo n s t x w) := by
  have hxz := Lib.hid hxz
  have cn := (hx n (by omega)).1
  have b1 := and63 s (by omega)
  have b2 := and63 t (by omega)
  have b3 := wrap64sub s t hst
  have ht64 : t ≤ 63 := by omega
  have hs64 : s ≤ 63 := by omega
  have hst := Lib.hid hst
  go_enter Tryz.func88, Tryz.ntmps88
  go_wp2
  go_loopw [8] (fun vi wr => ∃ k : Nat, k ≤ n ∧ vi = .int .i64 k ∧ LRel zb zo n s t x w k wr) (fun vi _ => (intOf vi).toNat)
  case atStart => exact ⟨n, Nat.le_refl _, rfl, Rw.refl _ _ _ _, fun j h1 h2 => by omega⟩
  case round =>
    obtain ⟨k, hk, rfl, hrel⟩ := hrel
    rcases k with _ | k
    · have c0 := (hx.rw hrel.rw (i := 0) (by omega) (fun e => by have := hxz.out e; omega)).1
      have z0 := hz.rw hrel.rw (i := 0) (by omega) (fun e => by omega)
      have z1 := z0.1
      have z2 := z0.2.1
      clear z0
      rw [Nat.add_zero] at c0 z1 z2
      have hl := Lib.hid (hrel.last hst.out (fun i hi => (hx i hi).2.2) z1 z2)
      clear hrel
      go_wp2
      go_ret
      exact ⟨ret_int (ediv_two _ _), hl.out.1, hl.out.2⟩
    · have c0 := (hx.rw hrel.rw (i := k) (by omega) (fun e => by have := hxz.out e; omega)).1
      have c1 := (hx.rw hrel.rw (i := k + 1) (by omega) (fun e => by have := hxz.out e; omega)).1
      have z0 := hz.rw hrel.rw (i := k + 1) (by omega) (fun e => by omega)
      have z1 := z0.1
      have z2 := z0.2.1
      clear z0
      have ho := or_lw (x := x) (k := k) hst.out (hx k (by omega)).2.2
      have hl := Lib.hid (hrel.step hk z1 z2)
      clear hrel
      go_wp2
      go_region
      all_goals go_wp2
      all_goals go_roundw
      case rel => exact ⟨k, by omega, rfl, hl.out⟩
      case measure => simp [intOf]
structure RRel (zb zo n s t : Nat) (x : Nat → Nat) (w : World) (k : Nat) (wr : World) : Prop where
  rw : Rw zb zo (zo + k) w wr
  done : Wd wr zb zo k (rw' x n s t)
def RshPost (zb zo n s t : Nat) (x : Nat → Nat) (w : World) (e : Ending) (w' : World) : Prop :=
  e = .returned (.int .u64 ((x 0 * 2 ^ t % 18446744073709551616 : Nat) : Int)) ∧ Rw zb zo (zo + n + 1) w w' ∧ Wd w' zb zo (n + 1) (rw' x n s t)
theorem RRel.step {zb zo n s t : Nat} {x : Nat → Nat} {w wr : World} {k : Nat} {u : Value} (h : RRel zb zo n s t x w k wr) (hst : s + t = 64) (hx : x k < 18446744073709551616)
    (hc : wr.cell? ⟨zb, zo + k, none⟩ = some u) (hf : wr.frozen? ⟨zb, zo + k, none⟩ = false) :
    RRel zb zo n s t x w (k + 1) (wr.setCell ⟨zb, zo + k, none⟩ (.int .u64 ((rw' x n s t k : Nat) : Int))) := by
  refine ⟨(h.rw.mono (Nat.le_refl _) (by omega)).set (by omega) (by omega) _, (h.done.snoc hc hf (rw_lt (n := n) hst hx)).congr fun i hi => ?_⟩
  split
  · next e => subst e; rfl
  · rfl
set_option maxHeartbeats 1000000 in
theorem rshVU_any (zb zo zc xb xo xc n s t : Nat) (f x : Nat → Nat) (w : World) (hn : n + 1 ≤ 1000000000) (hz : Wd w zb zo (n + 1) f) (hx : Wd w xb xo (n + 1) x) (hxz : xb = zb → zo ≤ xo) (hst : s + t = 64) (hs1 : 1 ≤ s) (ht1 : 1 ≤ t) :
    Calls Tryz.prog 89 #[.slice (some ⟨zb, zo, none⟩) (n + 1) zc, .slice (some ⟨xb, xo, none⟩) (n + 1) xc, .int .u64 (s : Int)] w (RshPost zb zo n s t x w) := by
  have hxz := Lib.hid hxz
  have cn := (hx 0 (by omega)).1
  rw [Nat.add_zero] at cn
  have b1 := and63 s (by omega)
  have b2 := and63 t (by omega)
  have b3 := wrap64sub s t hst
  have ht64 : t ≤ 63 := by omega
  have hs64 : s ≤ 63 := by omega
  have hst := Lib.hid hst
  go_enter Tryz.func89, Tryz.ntmps89
  go_wp2
  go_loopw [8] (fun vi wr => ∃ k : Nat, k ≤ n ∧ vi = .int .i64 ((k : Int) + 1) ∧ RRel zb zo n s t x w k wr) (fun vi _ => n + 1 - (intOf vi).toNat)
  case atStart => exact ⟨0, Nat.zero_le _, rfl, Rw.refl _ _ _ _, fun j h1 => by omega⟩
  case round =>
    obtain ⟨k, hk, rfl, hrel⟩ := hrel
    have c0 := (hx.rw hrel.rw (i := k) (by omega) (fun e => by have := hxz.out e; omega)).1
    have z0 := hz.rw hrel.rw (i := k) (by omega) (fun e => by omega)
    have z1 := z0.1
    have z2 := z0.2.1
    clear z0
    have hl := Lib.hid (hrel.step hst.out (hx k (by omega)).2.2 z1 z2)
    by_cases hlt : k < n
    · have c1 := (hx.rw hrel.rw (i := k + 1) (by omega) (fun e => by have := hxz.out e; omega)).1
      have ho := or_rw (x := x) (k := k) hst.out hlt (hx k (by omega)).2.2
      clear hrel
      go_wp2
      go_region
      all_goals go_wp2
      all_goals go_roundw
      case rel => exact ⟨k + 1, by omega, by go_num, (hl.out).rw.drew, hl.out.done.drew⟩
      case measure => simp [intOf]; omega
    · obtain rfl : k = n := by omega
      clear hrel
      have e : ((rw' x k s t k : Nat) : Int) = (x k : Int) / 2 ^ s := by
        rw [ediv_two]; unfold rw'; rw [if_pos rfl, Nat.add_zero]
      rw [e] at hl
      clear e
      go_wp2
      go_ret
      exact ⟨ret_int (wrap_mul_two _ _), hl.out.rw, hl.out.done⟩
end
section
open Go.RowKit
def nv : Option (Nat × Nat) → Nat → Value
  | none, _ => .slice none 0 0
  | some (b, c), n => .slice (some ⟨b, 0, none⟩) n c
def Nt (w : World) : Option (Nat × Nat) → Nat → (Nat → Nat) → Prop
  | none, n, _ => n = 0
  | some (b, c), n, f => n ≤ c ∧ c ≤ 100000000 ∧ 1 ≤ c ∧ Wd w b 0 c f ∧ Plain w b
def Nrm (f : Nat → Nat) (n : Nat) : Prop := n = 0 ∨ f (n - 1) ≠ 0
def InB (o : Option (Nat × Nat)) (k : Nat) : Prop := ∃ c, o = some (k, c)
def Own (w : World) (zo o : Option (Nat × Nat)) : Prop := ∀ b c, o = some (b, c) → InB zo b ∨ w.heap.size ≤ b
def NRes (w : World) (zo : Option (Nat × Nat)) (v : Nat) (e : Ending) (w' : World) : Prop :=
  ∃ o n f, e = .returned (nv o n) ∧ Nt w' o n f ∧ vl f n = v ∧ Nrm f n ∧ Own w zo o ∧ Turn (InB zo) w w'
theorem Nt.turn {S : Nat → Prop} {w w' : World} {o : Option (Nat × Nat)} {n : Nat} {f : Nat → Nat} (h : Nt w o n f) (t : Turn S w w') (hs : ∀ k, InB o k → ¬ S k) : Nt w' o n f := by
  rcases o with _ | ⟨b, c⟩
  · exact h
  · exact ⟨h.1, h.2.1, h.2.2.1, h.2.2.2.1.turn t (hs b ⟨c, rfl⟩), h.2.2.2.2.turn t (hs b ⟨c, rfl⟩)⟩
theorem Nt.lt {w : World} {o : Option (Nat × Nat)} {n : Nat} {f : Nat → Nat} (h : Nt w o n f) {k : Nat} (hk : InB o k) : k < w.heap.size := by
  obtain ⟨c, rfl⟩ := hk
  exact h.2.2.2.2.lt
theorem Nt.bd {w : World} {o : Option (Nat × Nat)} {n : Nat} {f : Nat → Nat} (h : Nt w o n f) : ∀ i, i < n → f i < 18446744073709551616 := by
  rcases o with _ | ⟨b, c⟩
  · intro i hi; have : n = 0 := h; omega
  · exact fun i hi => (h.2.2.2.1 i (by have := h.1; omega)).2.2
theorem Nt.len {w : World} {o : Option (Nat × Nat)} {n : Nat} {f : Nat → Nat} (h : Nt w o n f) : n ≤ 100000000 := by
  rcases o with _ | ⟨b, c⟩
  · have : n = 0 := h; omega
  · have := h.1; have := h.2.1; omega
def nl (f : Nat → Nat) : Nat → Nat
  | 0 => 0
  | n + 1 => if f n = 0 then nl f n else n + 1
theorem nl_le (f : Nat → Nat) (n : Nat) : nl f n ≤ n := by
  induction n with
  | zero => exact Nat.le_refl _
  | succ n ih => unfold nl; split <;> omega
theorem vl_nl (f : Nat → Nat) (n : Nat) : vl f (nl f n) = vl f n := by
  induction n with
  | zero => rfl
  | succ n ih =>
    unfold nl
    split
    · next h => rw [ih, vl_succ, h, Nat.zero_mul, Nat.add_zero]
    · rfl
theorem nrm_nl (f : Nat → Nat) (n : Nat) : Nrm f (nl f n) := by
  induction n with
  | zero => exact Or.inl rfl
  | succ n ih =>
    unfold nl
    split
    · exact ih
    · next h => exact Or.inr h
theorem Nrm.le {f : Nat → Nat} {n : Nat} (h : Nrm f n) (hn : n ≠ 0) : 18446744073709551616 ^ (n - 1) ≤ vl f n := by
  obtain ⟨m, rfl⟩ : ∃ m, n = m + 1 := ⟨n - 1, by omega⟩
  rcases h with h | h
  · omega
  · rw [vl_succ]
    simp at h
    have : 1 * 18446744073709551616 ^ m ≤ f m * 18446744073709551616 ^ m := Nat.mul_le_mul_right _ (by omega)
    simp
    omega
theorem Nrm.zero {f : Nat → Nat} {n : Nat} (h : Nrm f n) : vl f n = 0 ↔ n = 0 := by
  constructor
  · intro e
    rcases Nat.eq_zero_or_pos n with g | g
    · exact g
    · have h1 := h.le (by omega)
      have h2 := Nat.pow_pos (n := n - 1) (show 0 < 18446744073709551616 by omega)
      omega
  · rintro rfl; rfl
theorem Nrm.len {f : Nat → Nat} {n m : Nat} (h : Nrm f n) (hv : vl f n < 18446744073709551616 ^ m) : n ≤ m := by
  rcases Nat.lt_or_ge m n with g | g
  · have h1 := h.le (by omega)
    have h2 : 18446744073709551616 ^ m ≤ 18446744073709551616 ^ (n - 1) := Nat.pow_le_pow_right (by omega) (by omega)
    omega
  · exact g
theorem Rw.setCells {b lo hi : Nat} {w : World} : ∀ (vs : List Value) (o : Nat) (w' : World), Rw b lo hi w w' → lo ≤ o → o + vs.length ≤ hi → Rw b lo hi w (w'.setCells b o vs)
  | [], _, _, h, _, _ => h
  | v :: vs, o, _, h, h1, h2 => by
    simp at h2
    exact Rw.setCells vs (o + 1) _ (h.set h1 (by omega) v) (by omega) (by omega)
theorem addr_add (b o j : Nat) : (⟨b, o, none⟩ : Addr).add j = ⟨b, o + j, none⟩ := by
  unfold Addr.add
  split
  · next e => subst e; rfl
  · rfl
def copied (w : World) (zb zo n : Nat) (x : Nat → Nat) : World := w.setCells zb zo ((List.range n).map fun i => .int .u64 ((x i : Nat) : Int))
theorem run_copy_wdc (w : World) (ty : TypeId) (T : TypeId) (hT : Tryz.prog.underlying T = some (.slice 195)) {zb zo zl zc xb xo xl xc n : Nat} {f x : Nat → Nat} (hz : Wd w zb zo n f) (hx : Wd w xb xo n x) (hn : n = Nat.min xl zl) :
    (Builtin.copy_ #[T, T] ty #[.slice (some ⟨zb, zo, none⟩) zl zc, .slice (some ⟨xb, xo, none⟩) xl xc]).run Tryz.prog w = .ok (.int .i64 (n : Int)) (copied w zb zo n x) ∧ Rw zb zo (zo + n) w (copied w zb zo n x) ∧ Wd (copied w zb zo n x) zb zo n x := by
  have hl : ((List.range n).map fun i => Value.int .u64 ((x i : Nat) : Int)).length = n := by simp
  have hc : ∀ j, j < n → (w.cell? ⟨zb, zo + j, none⟩).isSome = true := fun j hj => by rw [(hz j hj).1]; rfl
  have hr := run_copy_cells (P := Tryz.prog) w T T ty 195 zb zo zl zc ⟨xb, xo, none⟩ xl xc ((List.range n).map fun i => .int .u64 ((x i : Nat) : Int)) hT (by kernel_rfl) (by rw [hl, hn])
    (fun j v hj => by
      have hjn : j < n := by
        have := (List.getElem?_eq_some_iff.1 hj).1
        rw [hl] at this; exact this
      simp [hjn] at hj
      rw [addr_add]
      rw [(hx j hjn).1, hj]) (fun j hj => hc j (by rw [hl] at hj; exact hj)) (fun j hj => (hz j (by rw [hl] at hj; exact hj)).2.1)
    (fun v hv => by simp at hv; obtain ⟨i, _, rfl⟩ := hv; rfl)
  refine ⟨by rw [hr, hl]; rfl, Rw.setCells _ _ _ (Rw.refl _ _ _ _) (Nat.le_refl _) (by rw [hl]; exact Nat.le_refl _), fun i hi => ⟨?_, ?_, (hx i hi).2.2⟩⟩
  · unfold copied
    rw [World.cell?_setCells_in zb _ zo w (fun j hj => hc j (by rw [hl] at hj; exact hj)) i (by rw [hl]; exact hi)]
    simp
  · unfold copied
    rw [World.frozen?_setCells]; exact (hz i hi).2.1
theorem run_copy_wd (w : World) (ty : TypeId) (T : TypeId) (hT : Tryz.prog.underlying T = some (.slice 195)) {zb zo zl zc xb xo xl xc n : Nat} {f x : Nat → Nat} (hz : Wd w zb zo n f) (hx : Wd w xb xo n x) (hn : n = Nat.min xl zl) :
    ∃ w', (Builtin.copy_ #[T, T] ty #[.slice (some ⟨zb, zo, none⟩) zl zc, .slice (some ⟨xb, xo, none⟩) xl xc]).run Tryz.prog w = .ok (.int .i64 (n : Int)) w' ∧ Rw zb zo (zo + n) w w' ∧ Wd w' zb zo n x :=
  ⟨_, run_copy_wdc w ty T hT hz hx hn⟩
theorem run_clear_wd (w : World) (ty : TypeId) (T : TypeId) (hT : Tryz.prog.underlying T = some (.slice 195)) {zb zo zc n : Nat} {f : Nat → Nat} (hz : Wd w zb zo n f) :
    ∃ w', (Builtin.clear_ #[T] ty #[.slice (some ⟨zb, zo, none⟩) n zc]).run Tryz.prog w = .ok (.tuple #[]) w' ∧ Rw zb zo (zo + n) w w' ∧ Wd w' zb zo n (fun _ => 0) := by
  have hc : ∀ j, j < n → (w.cell? ⟨zb, zo + j, none⟩).isSome = true := fun j hj => by rw [(hz j hj).1]; rfl
  rcases Nat.eq_zero_or_pos n with rfl | hn
  · refine ⟨w, ?_, Rw.refl _ _ _ _, fun i hi => absurd hi (Nat.not_lt_zero _)⟩
    simp [Builtin.clear_, run_underlying hT]
  · have hr := Lib.run_clear_slice (P := Tryz.prog) w T 195 ty (.int .u64 0) hT (fun _ => by kernel_rfl) rfl rfl zb zo n zc hn hc (fun j hj => (hz j hj).2.1)
    refine ⟨_, hr, Rw.setCells _ _ _ (Rw.refl _ _ _ _) (Nat.le_refl _) (by simp), fun i hi => ⟨?_, ?_, (show (0 : Nat) < 18446744073709551616 by omega)⟩⟩
    · rw [World.cell?_setCells_in zb _ zo w (fun j hj => hc j (by simpa using hj)) i (by simpa using hi)]
      simp
    · rw [World.frozen?_setCells]; exact (hz i hi).2.1
def zeros (c : Nat) : Obj := .cells (Array.replicate c (.int .u64 0)) 195
theorem run_make_wd (T : TypeId) (hT : Tryz.prog.underlying T = some (.slice 195)) (n c : Nat) (h : n ≤ c) (hc : c ≤ 1000000000) (w : World) :
    (Instr.makeSlice T (.int .i64 (n : Int)) (.int .i64 (c : Int))).run Tryz.prog w = .ok (.slice (some ⟨w.heap.size, 0, none⟩) n c) (w.alloc (zeros c)) := by
  have i195 : (Tryz.prog.info? 195).map (fun i => (i.zero, i.size, i.bytes)) = some (some (.int .u64 0), 1, 8) := by kernel_rfl
  obtain ⟨i0, hi, hz0, hz1, hz2⟩ := info_parts i195
  have hr := run_make (P := Tryz.prog) w T 195 i0 (.int .u64 0) hT hi hz0 .i64 .i64 (n : Int) (c : Int) (by omega) (by omega) (by rw [hz2]; omega) (by omega)
  rw [hr, hz1]
  simp only [Int.toNat_natCast, Nat.mul_one]
  have e : madeCells (Value.int .u64 0).cells c = Array.replicate c (.int .u64 0) := by
    have : (Value.int .u64 0).cells = #[.int .u64 0] := rfl
    rw [this]
    apply Array.ext
    · simp [madeCells]
    · intro i h1 h2
      simp [madeCells, Nat.mod_one]
  rw [e]
  rfl
theorem wd_made (w : World) (c : Nat) : Wd (w.alloc (zeros c)) w.heap.size 0 c (fun _ => 0) := fun i hi => by
  refine ⟨?_, ?_, (show (0 : Nat) < 18446744073709551616 by omega)⟩
  · show (match (w.heap.push (zeros c))[w.heap.size]? with | some (.cells c _ _) => if (none : Option _).isSome then none else c[0 + i]? | _ => none) = _
    rw [Array.getElem?_push_size]
    unfold zeros
    rw [Nat.zero_add]
    show (Array.replicate c (Value.int .u64 0))[i]? = _
    rw [Array.getElem?_replicate, if_pos hi]
    rfl
  · show (match (w.heap.push (zeros c))[w.heap.size]? with | some (.cells _ _ (lo, hi)) => decide (lo ≤ 0 + i) && decide (0 + i < hi) | _ => false) = _
    rw [Array.getElem?_push_size]
    unfold zeros
    simp
set_option maxHeartbeats 1000000 in
theorem make_new (zo : Option (Nat × Nat)) (m n : Nat) (hn : 1 ≤ n) (hn2 : n ≤ 1000000) (hz : ∀ b c, zo = some (b, c) → m ≤ c ∧ c < n) (w : World) :
    Calls Tryz.prog 171 #[nv zo m, .int .i64 (n : Int)] w fun e w' => ∃ c, e = .returned (.slice (some ⟨w.heap.size, 0, none⟩) n c) ∧ n ≤ c ∧ c ≤ 1000004 ∧ w' = w.alloc (zeros c) := by
  have mk1 : ∀ w, (Instr.makeSlice 126 (.int .i64 1) (.int .i64 1)).run Tryz.prog w = .ok (.slice (some ⟨w.heap.size, 0, none⟩) 1 1) (w.alloc (zeros 1)) := run_make_wd 126 Tryz.underlying126 1 1 (Nat.le_refl _) (by omega)
  have mk2 : ∀ w, (Instr.makeSlice 126 (.int .i64 (n : Int)) (.int .i64 ((n : Int) + 4))).run Tryz.prog w = .ok (.slice (some ⟨w.heap.size, 0, none⟩) n (n + 4)) (w.alloc (zeros (n + 4))) := run_make_wd 126 Tryz.underlying126 n (n + 4) (by omega) (by omega)
  have hcap : ∃ a cc, nv zo m = .slice a (if zo = none then 0 else m) cc ∧ cc < n := by
    rcases zo with _ | ⟨b, c⟩
    · exact ⟨none, 0, rfl, hn⟩
    · exact ⟨some ⟨b, 0, none⟩, c, rfl, (hz b c rfl).2⟩
  obtain ⟨a, cc, e, hcc⟩ := hcap
  rw [e]
  clear e hz
  by_cases h1 : n = 1
  · subst h1
    clear mk2
    go_enter Tryz.func171, Tryz.ntmps171
    go_wp2
    all_goals go_ret
    all_goals first | exact ⟨1, rfl, by omega, by omega, rfl⟩ | (exfalso; omega)
  · have h2 : ((n : Int) == 1) = false := by
      cases h : ((n : Int) == 1) with
      | false => rfl
      | true => exact absurd (by simpa using h) (by omega)
    clear mk1
    go_enter Tryz.func171, Tryz.ntmps171
    go_wp2
    all_goals go_ret
    all_goals first | exact ⟨n + 4, rfl, by omega, by omega, rfl⟩ | (exfalso; omega)
theorem make_old (b c m n : Nat) (hn : n ≤ c) (hm : m ≤ c) (hc : c ≤ 100000000) (w : World) :
    Calls Tryz.prog 171 #[.slice (some ⟨b, 0, none⟩) m c, .int .i64 (n : Int)] w fun e w' => e = .returned (.slice (some ⟨b, 0, none⟩) n c) ∧ w = w' := by
  go_enter Tryz.func171, Tryz.ntmps171
  go_wp2
  go_ret
  exact ⟨rfl, rfl⟩
theorem make_nil (w : World) : Calls Tryz.prog 171 #[.slice none 0 0, .int .i64 0] w fun e w' => e = .returned (.slice none 0 0) ∧ w = w' := by
  go_enter Tryz.func171, Tryz.ntmps171
  go_wp2
  go_ret
  exact ⟨rfl, rfl⟩
end
end Go.Proofs.YtllapbkoildfiaaGreatFmt
