/- The walks of the functions on single words: Add64, Sub64, Mul64, their likes for uint, and mulAddWWW · Shifts of words by a count, and what is or-ed of two words that share no bit · Pointers of one type compared: the same, or into two blocks. -/
import Derived.Test.YtllapbkoildfiaaGreatFmtProg
import Derived.Test.YtllapbkoildfiaaGreatFmtM04
import Derived.WalkKit
import Derived.WalkLawsBesides
import Derived.WalkSpells
import Derived.Laws.Externs
import Derived.Laws.Twins
import Derived.Laws.MathBits
import Derived.Lib.Mul64
import Derived.Lib.Hide
import Derived.Laws.BitsAllLaws
import Derived.LaidEqlPtr
set_option linter.all false
namespace Go.Proofs.YtllapbkoildfiaaGreatFmt
section
open Go.RowKit
theorem maskN (a : Nat) (ha : a < 18446744073709551616) : bits .and .u64 (a : Int) 4294967295 = ((a % 4294967296 : Nat) : Int) := by
  rw [and_low32 _ (by omega) (by omega)]; omega
theorem divN (a : Nat) : (a : Int) / 4294967296 = ((a / 4294967296 : Nat) : Int) := by omega
theorem mulN (a b : Nat) : (a : Int) * (b : Int) = ((a * b : Nat) : Int) := (Int.natCast_mul a b).symm
theorem addN (a b : Nat) : (a : Int) + (b : Int) = ((a + b : Nat) : Int) := (Int.natCast_add a b).symm
theorem wrapN (a : Nat) (ha : a < 18446744073709551616) : IntKind.u64.wrap (a : Int) = (a : Int) := by rw [IntKind.wrap_u64]; omega
theorem wrapM (a : Nat) : IntKind.u64.wrap (a : Int) = ((a % 18446744073709551616 : Nat) : Int) := by rw [IntKind.wrap_u64]; omega
def addEntry : Array Value → Sem Value := fun args => do
  let (x, y, c) ← Extern.MathBitsCarry.three "Add64" args
  pure (Extern.MathBitsCarry.pair ((x + y + c) % Extern.MathBitsCarry.m64) ((x + y + c) / Extern.MathBitsCarry.m64))
def subEntry : Array Value → Sem Value := fun args => do
  let (x, y, b) ← Extern.MathBitsCarry.three "Sub64" args
  pure (Extern.MathBitsCarry.pair ((x + Extern.MathBitsCarry.m64 - y - b) % Extern.MathBitsCarry.m64) (if x < y + b then 1 else 0))
theorem run_add64 (x y c : Nat) (hc : c ≤ 1) (w : World) : (callFunc 202 #[.int .u64 (x : Int), .int .u64 (y : Int), .int .u64 (c : Int)]).run Tryz.prog w =
    .ok (.value (.tuple #[.int .u64 (((x + y + c) % 18446744073709551616 : Nat) : Int), .int .u64 (((x + y + c) / 18446744073709551616 : Nat) : Int)])) w := by
  rw [run_callFunc_extern Tryz.func202 (by kernel_rfl) (by kernel_rfl) (by kernel_rfl) (e := addEntry) (by kernel_rfl)]
  have : c = 0 ∨ c = 1 := by omega
  rcases this with rfl | rfl <;> rfl
theorem run_sub64 (x y b : Nat) (hb : b ≤ 1) (w : World) : (callFunc 200 #[.int .u64 (x : Int), .int .u64 (y : Int), .int .u64 (b : Int)]).run Tryz.prog w =
    .ok (.value (.tuple #[.int .u64 (((x + 18446744073709551616 - y - b) % 18446744073709551616 : Nat) : Int), .int .u64 ((if x < y + b then 1 else 0 : Nat) : Int)])) w := by
  rw [run_callFunc_extern Tryz.func200 (by kernel_rfl) (by kernel_rfl) (by kernel_rfl) (e := subEntry) (by kernel_rfl)]
  have : b = 0 ∨ b = 1 := by omega
  rcases this with rfl | rfl <;> rfl
theorem add_any (x y c : Nat) (hc : c ≤ 1) (w : World) : Calls Tryz.prog 188 #[.int .u64 (x : Int), .int .u64 (y : Int), .int .u64 (c : Int)] w fun e w' =>
    e = .returned (.tuple #[.int .u64 (((x + y + c) % 18446744073709551616 : Nat) : Int), .int .u64 (((x + y + c) / 18446744073709551616 : Nat) : Int)]) ∧ w = w' := by
  have ha := run_add64 x y c hc
  clear hc
  go_enter Tryz.func188, Tryz.ntmps188
  go_wp2_with fail
  go_ret2
  exact ⟨rfl, rfl⟩
theorem sub_any (x y b : Nat) (hb : b ≤ 1) (w : World) : Calls Tryz.prog 185 #[.int .u64 (x : Int), .int .u64 (y : Int), .int .u64 (b : Int)] w fun e w' =>
    e = .returned (.tuple #[.int .u64 (((x + 18446744073709551616 - y - b) % 18446744073709551616 : Nat) : Int), .int .u64 ((if x < y + b then 1 else 0 : Nat) : Int)]) ∧ w = w' := by
  have ha := run_sub64 x y b hb
  clear hb
  generalize ((if x < y + b then 1 else 0 : Nat) : Int) = c at ha
  go_enter Tryz.func185, Tryz.ntmps185
  go_wp2_with fail
  go_ret2
  exact ⟨rfl, rfl⟩
set_option maxHeartbeats 1000000 in
theorem mul64_any (x y : Nat) (hx : x < 18446744073709551616) (hy : y < 18446744073709551616) (w : World) : Calls Tryz.prog 242 #[.int .u64 (x : Int), .int .u64 (y : Int)] w fun e w' =>
    e = .returned (.tuple #[.int .u64 ((x * y / 18446744073709551616 : Nat) : Int), .int .u64 ((x * y % 18446744073709551616 : Nat) : Int)]) ∧ w = w' := by
  obtain ⟨bd, bt, bw, hhi⟩ := Lib.mul64_hi x y hx hy
  have ba := Lib.half_mul_le (a := x / 4294967296) (b := y / 4294967296) (by omega) (by omega)
  have bb := Lib.half_mul_le (a := x / 4294967296) (b := y % 4294967296) (by omega) (by omega)
  have bc := Lib.half_mul_le (a := x % 4294967296) (b := y / 4294967296) (by omega) (by omega)
  have ba' : x / 4294967296 * (y / 4294967296) < 18446744073709551616 := by omega
  have bb' : x / 4294967296 * (y % 4294967296) < 18446744073709551616 := by omega
  have bc' : x % 4294967296 * (y / 4294967296) < 18446744073709551616 := by omega
  have bh1 : x / 4294967296 * (y / 4294967296) + (x / 4294967296 * (y % 4294967296) + x % 4294967296 * (y % 4294967296) / 4294967296) / 4294967296 < 18446744073709551616 := by omega
  have bh : x / 4294967296 * (y / 4294967296) + (x / 4294967296 * (y % 4294967296) + x % 4294967296 * (y % 4294967296) / 4294967296) / 4294967296 + ((x / 4294967296 * (y % 4294967296) + x % 4294967296 * (y % 4294967296) / 4294967296) % 4294967296 + x % 4294967296 * (y / 4294967296)) / 4294967296 < 18446744073709551616 := by omega
  go_enter Tryz.func242, Tryz.ntmps242
  go_wp2
  simp only [maskN x hx, maskN y hy, divN, mulN, addN, wrapN _ bd, wrapN _ bb', wrapN _ bt, maskN _ bt, wrapN _ bc', wrapN _ bw, wrapN _ ba', wrapN _ bh1, wrapN _ bh, wrapM (x * y)]
  rw [hhi]
  go_ret2
  exact ⟨rfl, rfl⟩
theorem mul_any (x y : Nat) (hx : x < 18446744073709551616) (hy : y < 18446744073709551616) (w : World) : Calls Tryz.prog 220 #[.int .u64 (x : Int), .int .u64 (y : Int)] w fun e w' =>
    e = .returned (.tuple #[.int .u64 ((x * y / 18446744073709551616 : Nat) : Int), .int .u64 ((x * y % 18446744073709551616 : Nat) : Int)]) ∧ w = w' := by
  have c64 := mul64_any x y hx hy w
  clear hx hy
  go_enter Tryz.func220, Tryz.ntmps220
  go_wp2_with (go_at_call 242; refine c64.mono ?_; rintro e w' ⟨rfl, rfl⟩)
  go_ret2
  exact ⟨rfl, rfl⟩
theorem hi_mac (x y c : Nat) (hx : x < 18446744073709551616) (hy : y < 18446744073709551616) (hc : c < 18446744073709551616) :
    x * y / 18446744073709551616 + (x * y % 18446744073709551616 + c) / 18446744073709551616 = (x * y + c) / 18446744073709551616 ∧ (x * y + c) / 18446744073709551616 < 18446744073709551616 ∧
    (x * y % 18446744073709551616 + c) / 18446744073709551616 ≤ 1 := by
  have h1 : x * y ≤ 18446744073709551615 * 18446744073709551615 := Nat.mul_le_mul (by omega) (by omega)
  generalize x * y = p at *
  omega
theorem mac_any (x y c : Nat) (hx : x < 18446744073709551616) (hy : y < 18446744073709551616) (hc : c < 18446744073709551616) (w : World) : Calls Tryz.prog 222 #[.int .u64 (x : Int), .int .u64 (y : Int), .int .u64 (c : Int)] w fun e w' =>
    e = .returned (.tuple #[.int .u64 (((x * y + c) / 18446744073709551616 : Nat) : Int), .int .u64 (((x * y + c) % 18446744073709551616 : Nat) : Int)]) ∧ w = w' := by
  obtain ⟨e1, e2, e3⟩ := hi_mac x y c hx hy hc
  have c64 := mul_any x y hx hy
  have ca := add_any (x * y % 18446744073709551616) c 0 (by omega)
  have ew : IntKind.u64.wrap (((x * y / 18446744073709551616 : Nat) : Int) + (((x * y % 18446744073709551616 + c + 0) / 18446744073709551616 : Nat) : Int)) = (((x * y + c) / 18446744073709551616 : Nat) : Int) := by
    rw [addN, Nat.add_zero, e1, wrapN _ e2]
  have ew2 : (((x * y % 18446744073709551616 + c + 0) % 18446744073709551616 : Nat) : Int) = (((x * y + c) % 18446744073709551616 : Nat) : Int) := by
    generalize x * y = p
    omega
  rw [ew2] at ca
  clear ew2 e1 e2 e3 hx hy hc
  generalize ((x * y / 18446744073709551616 : Nat) : Int) = A at *
  generalize ((x * y % 18446744073709551616 : Nat) : Int) = B at *
  generalize (((x * y % 18446744073709551616 + c + 0) / 18446744073709551616 : Nat) : Int) = C at *
  generalize (((x * y + c) % 18446744073709551616 : Nat) : Int) = D at *
  generalize (((x * y + c) / 18446744073709551616 : Nat) : Int) = E at *
  go_enter Tryz.func222, Tryz.ntmps222
  go_wp2_with (first | (go_at_call 220; refine (c64 _).mono ?_; rintro e w' ⟨rfl, rfl⟩) | (go_at_call 188; refine (ca _).mono ?_; rintro e w' ⟨rfl, rfl⟩))
  go_ret2
  exact ⟨rfl, rfl⟩
end
section
open Go.RowKit
theorem run_shr (a c : Nat) (hc : c ≤ 64) (w : World) : (Op.shift .shr .u64 (a : Int) .u64 (c : Int)).run Tryz.prog w = .ok (.int .u64 ((a / 2 ^ c : Nat) : Int)) w := by
  rw [shift_shr_any _ _ _ _ (by omega)]
  have : min (c : Int).toNat IntKind.u64.bits = c := by show min c 64 = c; omega
  rw [this]
  have e : (a : Int) / 2 ^ c = ((a / 2 ^ c : Nat) : Int) := by rw [Int.natCast_ediv, Int.natCast_pow]; rfl
  rw [e]; rfl
theorem run_shl (a c : Nat) (hc : c ≤ 64) (w : World) : (Op.shift .shl .u64 (a : Int) .u64 (c : Int)).run Tryz.prog w = .ok (.int .u64 ((a * 2 ^ c % 18446744073709551616 : Nat) : Int)) w := by
  rw [shift_shl_any _ _ _ _ (by omega)]
  have : min (c : Int).toNat IntKind.u64.bits = c := by show min c 64 = c; omega
  rw [this]
  have e : (a : Int) * 2 ^ c = ((a * 2 ^ c : Nat) : Int) := by rw [Int.natCast_mul, Int.natCast_pow]; rfl
  rw [e, wrapM]; rfl
theorem and63 (s : Nat) (h : s < 64) : bits .and .u64 (s : Int) 63 = (s : Int) := by
  have : ∀ k : Fin 64, bits .and .u64 ((k.val : Nat) : Int) 63 = ((k.val : Nat) : Int) := by decide +kernel
  exact this ⟨s, h⟩
theorem wrap64sub (s t : Nat) (h : s + t = 64) : IntKind.u64.wrap (64 - (s : Int)) = (t : Int) := by
  rw [IntKind.wrap_u64]; omega
theorem ediv_two (a t : Nat) : (a : Int) / 2 ^ t = ((a / 2 ^ t : Nat) : Int) := by rw [Int.natCast_ediv, Int.natCast_pow]; rfl
theorem wrap_mul_two (a s : Nat) : IntKind.u64.wrap ((a : Int) * 2 ^ s) = ((a * 2 ^ s % 18446744073709551616 : Nat) : Int) := by
  have e : (a : Int) * 2 ^ s = ((a * 2 ^ s : Nat) : Int) := by rw [Int.natCast_mul, Int.natCast_pow]; rfl
  rw [e, wrapM]
theorem or_add (p q s : Nat) (hq : q < 2 ^ s) : (p * 2 ^ s) ||| q = p * 2 ^ s + q := by
  rw [Nat.mul_comm]
  exact (Nat.two_pow_add_eq_or_of_lt hq p).symm
theorem shl_mod (x s t : Nat) (h : s + t = 64) : x * 2 ^ s % 18446744073709551616 = x % 2 ^ t * 2 ^ s := by
  have e : (18446744073709551616 : Nat) = 2 ^ t * 2 ^ s := by rw [← Nat.pow_add, Nat.add_comm t s, h]
  rw [e, Nat.mul_mod_mul_right]
theorem shr_lt (x s t : Nat) (h : s + t = 64) (hx : x < 18446744073709551616) : x / 2 ^ t < 2 ^ s := by
  rw [Nat.div_lt_iff_lt_mul (Nat.two_pow_pos t), ← Nat.pow_add, h]; exact hx
def lw (x : Nat → Nat) (s t j : Nat) : Nat := x j % 2 ^ t * 2 ^ s + if j = 0 then 0 else x (j - 1) / 2 ^ t
theorem lw_lt {x : Nat → Nat} {s t j : Nat} (h : s + t = 64) (hx : x (j - 1) < 18446744073709551616) : lw x s t j < 18446744073709551616 := by
  have h1 : x j % 2 ^ t < 2 ^ t := Nat.mod_lt _ (Nat.two_pow_pos t)
  have h2 := shr_lt _ s t h hx
  have e : (18446744073709551616 : Nat) = 2 ^ t * 2 ^ s := by rw [← Nat.pow_add, Nat.add_comm t s, h]
  have h3 : (x j % 2 ^ t + 1) * 2 ^ s ≤ 2 ^ t * 2 ^ s := Nat.mul_le_mul_right _ h1
  rw [Nat.add_mul, ← e] at h3
  have h4 := Nat.two_pow_pos s
  unfold lw
  split <;> omega
theorem or_lw {x : Nat → Nat} {s t k : Nat} (h : s + t = 64) (hx : x k < 18446744073709551616) :
    bits .or .u64 (IntKind.u64.wrap ((x (k + 1) : Int) * 2 ^ s)) ((x k : Int) / 2 ^ t) = ((lw x s t (k + 1) : Nat) : Int) := by
  rw [ediv_two, wrap_mul_two]
  have h2 := shr_lt _ s t h hx
  rw [u64_or_nat _ _ (Nat.mod_lt _ (by omega)) (Nat.lt_of_le_of_lt (Nat.div_le_self _ _) hx), shl_mod _ s t h, or_add _ _ _ h2]
  rfl
theorem vl_lw {x : Nat → Nat} {s t : Nat} (h : s + t = 64) : ∀ n, vl (lw x s t) (n + 1) + x n / 2 ^ t * 18446744073709551616 ^ (n + 1) = vl x (n + 1) * 2 ^ s := by
  have e : (18446744073709551616 : Nat) = 2 ^ t * 2 ^ s := by rw [← Nat.pow_add, Nat.add_comm t s, h]
  have key : ∀ y : Nat, y % 2 ^ t * 2 ^ s + y / 2 ^ t * 18446744073709551616 = y * 2 ^ s := fun y => by
    rw [e, ← Nat.mul_assoc, ← Nat.add_mul]
    congr 1
    have := Nat.div_add_mod y (2 ^ t)
    rw [Nat.mul_comm] at this
    omega
  intro n
  induction n with
  | zero =>
    have := key (x 0)
    simp [vl, lw]
    exact this
  | succ n ih =>
    have k1 := key (x (n + 1))
    rw [vl]
    generalize vl (lw x s t) (n + 1) = A at *
    rw [vl_succ x (n + 1)]
    generalize vl x (n + 1) = B at *
    have el : lw x s t (n + 1) = x (n + 1) % 2 ^ t * 2 ^ s + x n / 2 ^ t := rfl
    rw [el, Nat.pow_succ 18446744073709551616 (n + 1), Nat.mul_comm (18446744073709551616 ^ (n + 1)) 18446744073709551616]
    generalize 18446744073709551616 ^ (n + 1) = P at *
    generalize x n / 2 ^ t = c at *
    rw [Nat.add_mul, Nat.add_mul, ← ih, Nat.mul_right_comm (x (n + 1)) P (2 ^ s), ← k1, Nat.add_mul, ← Nat.mul_assoc]
    generalize x (n + 1) / 2 ^ t * 18446744073709551616 * P = u
    generalize x (n + 1) % 2 ^ t * 2 ^ s * P = v
    generalize c * P = z
    omega
def rw' (x : Nat → Nat) (n s t j : Nat) : Nat := x j / 2 ^ s + if j = n then 0 else x (j + 1) % 2 ^ s * 2 ^ t
theorem or_rw {x : Nat → Nat} {n s t k : Nat} (h : s + t = 64) (hk : k < n) (hx : x k < 18446744073709551616) :
    bits .or .u64 ((x k : Int) / 2 ^ s) (IntKind.u64.wrap ((x (k + 1) : Int) * 2 ^ t)) = ((rw' x n s t k : Nat) : Int) := by
  rw [ediv_two, wrap_mul_two]
  have h2 := shr_lt _ t s (by omega) hx
  rw [u64_or_nat _ _ (Nat.lt_of_le_of_lt (Nat.div_le_self _ _) hx) (Nat.mod_lt _ (by omega)), shl_mod _ t s (by omega), Nat.or_comm, or_add _ _ _ h2]
  unfold rw'
  rw [if_neg (by omega), Nat.add_comm]
theorem rw_lt {x : Nat → Nat} {n s t j : Nat} (h : s + t = 64) (hx : x j < 18446744073709551616) : rw' x n s t j < 18446744073709551616 := by
  have h2 := shr_lt _ t s (by omega) hx
  have e : (18446744073709551616 : Nat) = 2 ^ s * 2 ^ t := by rw [← Nat.pow_add, h]
  have h1 : x (j + 1) % 2 ^ s < 2 ^ s := Nat.mod_lt _ (Nat.two_pow_pos s)
  have h3 : (x (j + 1) % 2 ^ s + 1) * 2 ^ t ≤ 2 ^ s * 2 ^ t := Nat.mul_le_mul_right _ h1
  rw [Nat.add_mul, ← e] at h3
  have h4 := Nat.two_pow_pos t
  unfold rw'
  split <;> omega
theorem vl_rw {x : Nat → Nat} {s t : Nat} (h : s + t = 64) : ∀ n, vl (rw' x n s t) (n + 1) * 2 ^ s + x 0 % 2 ^ s = vl x (n + 1) := by
  have e : (18446744073709551616 : Nat) = 2 ^ t * 2 ^ s := by rw [← Nat.pow_add, Nat.add_comm t s, h]
  intro n
  induction n with
  | zero =>
    have := Nat.div_add_mod (x 0) (2 ^ s)
    simp [vl, rw']
    rw [Nat.mul_comm]
    exact this
  | succ n ih =>
    rw [vl]
    have e1 : vl (rw' x (n + 1) s t) (n + 1) = vl (rw' x n s t) (n + 1) + x (n + 1) % 2 ^ s * 2 ^ t * 18446744073709551616 ^ n := by
      rw [vl, vl, vl_congr (g := rw' x n s t)]
      · have a1 : rw' x (n + 1) s t n = x n / 2 ^ s + x (n + 1) % 2 ^ s * 2 ^ t := by unfold rw'; rw [if_neg (by omega)]
        have a2 : rw' x n s t n = x n / 2 ^ s := by unfold rw'; rw [if_pos rfl, Nat.add_zero]
        rw [a1, a2, Nat.add_mul, Nat.add_assoc]
      · intro i hi
        unfold rw'
        rw [if_neg (by omega), if_neg (by omega)]
    rw [e1, vl_succ x (n + 1), ← ih]
    have e2 : rw' x (n + 1) s t (n + 1) = x (n + 1) / 2 ^ s := by unfold rw'; rw [if_pos rfl, Nat.add_zero]
    rw [e2]
    generalize vl (rw' x n s t) (n + 1) = A
    have d := Nat.div_add_mod (x (n + 1)) (2 ^ s)
    have e3 : x (n + 1) % 2 ^ s * 2 ^ t * 18446744073709551616 ^ n * 2 ^ s = x (n + 1) % 2 ^ s * 18446744073709551616 ^ (n + 1) := by
      rw [Nat.pow_succ, e, Nat.mul_right_comm _ ((2 ^ t * 2 ^ s) ^ n) (2 ^ s), Nat.mul_assoc (x (n + 1) % 2 ^ s) (2 ^ t) (2 ^ s), Nat.mul_assoc, Nat.mul_comm (2 ^ t * 2 ^ s) ((2 ^ t * 2 ^ s) ^ n)]
    rw [Nat.add_mul, Nat.add_mul, e3]
    have e4 : x (n + 1) / 2 ^ s * 18446744073709551616 ^ (n + 1) * 2 ^ s + x (n + 1) % 2 ^ s * 18446744073709551616 ^ (n + 1) = x (n + 1) * 18446744073709551616 ^ (n + 1) := by
      rw [Nat.mul_right_comm, ← Nat.add_mul, Nat.mul_comm (x (n + 1) / 2 ^ s), d]
    omega
end
section
open Go.RowKit
theorem info_get {te : TypeId} (h : ((Tryz.prog.info? te).any fun j => j.size != 0) = true) : ∃ j, Tryz.prog.info? te = some j ∧ j.size ≠ 0 := by
  cases e : Tryz.prog.info? te with
  | none => rw [e] at h; cases h
  | some j => rw [e] at h; exact ⟨j, rfl, by simpa using h⟩
theorem ptr_eql_same (tp te : TypeId) (hp : Tryz.prog.underlying tp = some (.pointer te)) (hte : ((Tryz.prog.info? te).any fun j => j.size != 0) = true) (a : Addr) (w : World) :
    (binOp .eql tp (.pointer (some a)) (.pointer (some a))).run Tryz.prog w = .ok (.bool true) w := by
  obtain ⟨j, h1, -⟩ := info_get hte
  exact run_eql_ptr_same w a hp h1
theorem ptr_eql_other (tp te : TypeId) (hp : Tryz.prog.underlying tp = some (.pointer te)) (hte : ((Tryz.prog.info? te).any fun j => j.size != 0) = true) {a b : Addr} (w : World) (hne : a.block ≠ b.block) (ha : Plain w a.block) (hb : Plain w b.block) :
    (binOp .eql tp (.pointer (some a)) (.pointer (some b))).run Tryz.prog w = .ok (.bool false) w := by
  obtain ⟨j, h1, h2⟩ := info_get hte
  obtain ⟨ca, ta, ha⟩ := ha
  obtain ⟨cb, tb, hb⟩ := hb
  exact run_eql_ptr_other w hp h1 h2 (fun e => hne (by rw [e])) ha hb
theorem ptr_neq_same (tp te : TypeId) (hp : Tryz.prog.underlying tp = some (.pointer te)) (hte : ((Tryz.prog.info? te).any fun j => j.size != 0) = true) (a : Addr) (w : World) :
    (binOp .neq tp (.pointer (some a)) (.pointer (some a))).run Tryz.prog w = .ok (.bool false) w := by
  obtain ⟨j, h1, -⟩ := info_get hte
  have h : ∀ d : Nat, (Op.equalIn (d + 1) tp (.pointer (some a)) (.pointer (some a))).run Tryz.prog w = .ok true w := fun d => by
    simp [Op.equalIn, run_underlying hp, sizeOf, typeInfo, h1, run_sameAddr_same]
  simp only [binOp]
  simp [Op.equal, Op.maxDepth, h 9999]
theorem ptr_neq_other (tp te : TypeId) (hp : Tryz.prog.underlying tp = some (.pointer te)) (hte : ((Tryz.prog.info? te).any fun j => j.size != 0) = true) {a b : Addr} (w : World) (hne : a.block ≠ b.block) (ha : Plain w a.block) (hb : Plain w b.block) :
    (binOp .neq tp (.pointer (some a)) (.pointer (some b))).run Tryz.prog w = .ok (.bool true) w := by
  obtain ⟨j, h1, h2⟩ := info_get hte
  obtain ⟨ca, ta, ha⟩ := ha
  obtain ⟨cb, tb, hb⟩ := hb
  have h : ∀ d : Nat, (Op.equalIn (d + 1) tp (.pointer (some a)) (.pointer (some b))).run Tryz.prog w = .ok false w := fun d => by
    simp [Op.equalIn, run_underlying hp, sizeOf, typeInfo, h1, h2, run_sameAddr_other w (fun e => hne (by rw [e])) ha hb]
  simp only [binOp]
  simp [Op.equal, Op.maxDepth, h 9999]
end
end Go.Proofs.YtllapbkoildfiaaGreatFmt
