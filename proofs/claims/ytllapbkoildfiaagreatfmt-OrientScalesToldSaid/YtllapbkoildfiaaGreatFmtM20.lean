/- Walks of package bits' Canon, Next, Prev and of math.Nextafter; round.signed · dyadic.caught where nothing was given up; of, Of · dyadic.Of · dyadic.open: lists of numbers, and of what is reckoned with. -/
import Derived.Test.YtllapbkoildfiaaGreatFmtM19
import Derived.Defers
import Derived.Recover
set_option linter.all false
namespace Go.Proofs.YtllapbkoildfiaaGreatFmt
section
open Go.RowKit
theorem add_zero_word {n : Nat} (h : NN n) : floatBits .add .f64 n 0 = some (cn n) := by
  show Ieee.double.add n 0 = _
  by_cases g : n % 9223372036854775808 = 9218868437227405312
  · have e : n = 9218868437227405312 ∨ n = 18442240474082181120 := by have := h.1; omega
    rcases e with rfl | rfl <;> decide
  · have hf : Fin64 n := ⟨h.1, by have := h.2; omega⟩
    by_cases z : fv n = 0
    · have := fv_zero.1 z
      have e : n = 0 ∨ n = 9223372036854775808 := by have := h.1; omega
      rcases e with rfl | rfl <;> decide
    · have h0 : Fin64 0 := ⟨by omega, by omega⟩
      have z0 : fv 0 = 0 := by decide
      have hr : rn (fv n + fv 0) = fv n := by
        rw [z0, Int.add_zero]
        refine rn_rep ?_
        unfold Rep
        rw [fv_abs, fv_mant n hf]
        refine ⟨mant n, _, rfl, ?_⟩
        unfold mant ff
        split <;> omega
      obtain ⟨r, h1, h2, h3⟩ := add_word hf h0 (by
        rw [hr, fv_abs]
        have : n % 9223372036854775808 ≤ 2045 * 4503599627370496 + 9007199254740991 := by have := hf.2; omega
        refine Nat.lt_of_le_of_lt (mg_le this) ?_
        rw [mg_at (.inr (by omega))]
        set_option exponentiation.threshold 100000 in exact Nat.mul_lt_mul_of_pos_right (by omega) (Nat.two_pow_pos _))
      rw [hr] at h3
      rw [h1, fv_inj h2.1 hf.1 h3 (by rw [h3]; exact z)]
      congr 1
      unfold cn
      rw [if_neg]
      rintro rfl
      exact z (by decide)
theorem Canon_any (n : Nat) (w : World) (h : NN n) : Calls Tryz.prog 82 #[.int .i64 (iw n)] w fun e w' => e = .returned (.int .i64 (iw (cn n))) ∧ w = w' := by
  have a := Float_any n w h.1
  have b := bOf_any (cn n) w (cn_nn h)
  have hs : ∀ w, (binOp .add 57 (.float .f64 n) (.float .f64 0)).run Tryz.prog w = .ok (.float .f64 (cn n)) w := fun w => run_float_arith w .add 57 .f64 _ _ _ (add_zero_word h)
  clear h
  go_enter Tryz.func82, Tryz.ntmps82
  go_wp2_with (first
    | (go_at_call 61; ((with_reducible refine a.mono ?_)); rintro e w' ⟨rfl, rfl⟩)
    | (go_at_call 59; ((with_reducible refine b.mono ?_)); rintro e w' ⟨rfl, rfl⟩))
  go_ret
  exact ⟨rfl, rfl⟩
def nx (n : Nat) : Nat := if n = 9218868437227405312 then n else if n % 9223372036854775808 = 0 then 1 else if n < 9223372036854775808 then n + 1 else n - 1
theorem nx_nn {n : Nat} (h : NN n) : NN (nx n) := by
  obtain ⟨h1, h2⟩ := h
  unfold nx NN
  split
  · omega
  · split
    · omega
    · split <;> omega
theorem rk_nx {n : Nat} (h : NN n) (hi : n ≠ 9218868437227405312) : rk (nx n) = rk n + 1 := by
  obtain ⟨h1, h2⟩ := h
  unfold nx rk
  rw [if_neg hi]
  split
  · rename_i g; rw [g]; split <;> split <;> omega
  · split <;> split <;> split <;> omega
theorem copysign_one (w : World) : Calls Tryz.prog 179 #[.float .f64 1, .float .f64 9218868437227405312] w fun e w' => e = .returned (.float .f64 1) ∧ w = w' := by
  have fb := to_bits
  have fc := from_bits
  have e1 : bits .andNot .u64 1 9223372036854775808 = 1 := by decide
  have e2 : bits .and .u64 9218868437227405312 9223372036854775808 = 0 := by decide
  have e3 : bits .or .u64 1 0 = 1 := by decide
  go_enter Tryz.func179, Tryz.ntmps179
  go_wp2
  go_ret
  exact ⟨rfl, rfl⟩
theorem inf_nn : NN 9218868437227405312 := ⟨by omega, by omega⟩
theorem rk_top : rk 9218868437227405312 = 9218868437227405312 := by decide
theorem Nextafter_up (n : Nat) (w : World) (h : NN n) : Calls Tryz.prog 150 #[.float .f64 n, .float .f64 9218868437227405312] w fun e w' => e = .returned (.float .f64 (nx n)) ∧ w = w' := by
  have a := IsNaN_no n w h
  have b := IsNaN_no 9218868437227405312 w inf_nn
  have c := copysign_one w
  have o1 := beq_eq h inf_nn
  have z : NN 0 := ⟨by omega, by omega⟩
  have o2 := beq_eq h z
  have o3 := beq_gt inf_nn h
  have o4 := beq_gt h z
  rw [rk_top] at o1 o3
  rw [rk_zero] at o2 o4
  have fb := to_bits
  have fc := from_bits
  have hb : rk n ≤ 9218868437227405312 := by have := h.2; unfold rk; split <;> omega
  have hlt := h.1
  by_cases g1 : n = 9218868437227405312
  · subst g1
    rw [show nx 9218868437227405312 = 9218868437227405312 from rfl]
    rw [rk_top] at o1
    clear o2 o3 o4 h z hb hlt
    go_enter Tryz.func150, Tryz.ntmps150
    go_wp2_with (first
      | (go_at_call 177; ((with_reducible refine a.mono ?_)); rintro e w' ⟨rfl, rfl⟩)
      | (go_at_call 177; ((with_reducible refine b.mono ?_)); rintro e w' ⟨rfl, rfl⟩))
    go_ret
    exact ⟨rfl, rfl⟩
  · have g2 : rk n ≠ 9218868437227405312 := fun e => g1 (by have := h.1; unfold rk at e; split at e <;> omega)
    rw [decide_eq_false g2] at o1
    rw [decide_eq_true (by omega)] at o3
    by_cases g3 : n % 9223372036854775808 = 0
    · have e : nx n = 1 := by unfold nx; rw [if_neg g1, if_pos g3]
      have r0 : rk n = 0 := by unfold rk; rw [g3]; split <;> rfl
      rw [e]
      rw [r0] at o2
      clear o3 o4 h z hb hlt g1 g2 g3 e r0
      go_enter Tryz.func150, Tryz.ntmps150
      go_wp2_with (first
        | (go_at_call 177; ((with_reducible refine a.mono ?_)); rintro e w' ⟨rfl, rfl⟩)
        | (go_at_call 177; ((with_reducible refine b.mono ?_)); rintro e w' ⟨rfl, rfl⟩)
        | (go_at_call 179; ((with_reducible refine c.mono ?_)); rintro e w' ⟨rfl, rfl⟩))
      go_ret
      exact ⟨rfl, rfl⟩
    · have r0 : rk n ≠ 0 := by unfold rk; split <;> omega
      rw [decide_eq_false r0] at o2
      by_cases g4 : n < 9223372036854775808
      · have e : nx n = n + 1 := by unfold nx; rw [if_neg g1, if_neg g3, if_pos g4]
        have r1 : 0 < rk n := by unfold rk; split <;> omega
        rw [e]
        rw [decide_eq_true r1] at o4
        have e2 : IntKind.u64.wrap ((n : Int) + 1) = ((n + 1 : Nat) : Int) := by rw [IntKind.wrap_u64]; omega
        clear h z hb hlt g1 g2 g3 e r0 r1 g4
        go_enter Tryz.func150, Tryz.ntmps150
        go_wp2_with (first
          | (go_at_call 177; ((with_reducible refine a.mono ?_)); rintro e w' ⟨rfl, rfl⟩)
          | (go_at_call 177; ((with_reducible refine b.mono ?_)); rintro e w' ⟨rfl, rfl⟩))
        go_ret
        exact ⟨rfl, rfl⟩
      · have e : nx n = n - 1 := by unfold nx; rw [if_neg g1, if_neg g3, if_neg g4]
        have r1 : ¬ 0 < rk n := by unfold rk; split <;> omega
        rw [e]
        rw [decide_eq_false r1] at o4
        have e2 : IntKind.u64.wrap ((n : Int) - 1) = ((n - 1 : Nat) : Int) := by rw [IntKind.wrap_u64]; omega
        clear h z hb hlt g1 g2 g3 e r0 r1 g4
        go_enter Tryz.func150, Tryz.ntmps150
        go_wp2_with (first
          | (go_at_call 177; ((with_reducible refine a.mono ?_)); rintro e w' ⟨rfl, rfl⟩)
          | (go_at_call 177; ((with_reducible refine b.mono ?_)); rintro e w' ⟨rfl, rfl⟩))
        go_ret
        exact ⟨rfl, rfl⟩
theorem Next_any (n : Nat) (w : World) (h : NN n) : Calls Tryz.prog 110 #[.int .i64 (iw n)] w fun e w' => e = .returned (.int .i64 (iw (nx n))) ∧ w = w' := by
  have a := Float_any n w h.1
  have b := Inf_pos w
  have c := Nextafter_up n w h
  have d := bOf_any (nx n) w (nx_nn h)
  clear h
  go_enter Tryz.func110, Tryz.ntmps110
  go_wp2_with (first
    | (go_at_call 61; ((with_reducible refine a.mono ?_)); rintro e w' ⟨rfl, rfl⟩)
    | (go_at_call 56; ((with_reducible refine b.mono ?_)); rintro e w' ⟨rfl, rfl⟩)
    | (go_at_call 150; ((with_reducible refine c.mono ?_)); rintro e w' ⟨rfl, rfl⟩)
    | (go_at_call 59; ((with_reducible refine d.mono ?_)); rintro e w' ⟨rfl, rfl⟩))
  go_ret
  exact ⟨rfl, rfl⟩
def pv (n : Nat) : Nat := opp (nx (opp n))
theorem pv_nn {n : Nat} (h : NN n) : NN (pv n) := (nx_nn h.opp).opp
theorem rk_pv {n : Nat} (h : NN n) (hi : n ≠ 18442240474082181120) : rk (pv n) = rk n - 1 := by
  have h1 := h.1
  unfold pv
  rw [rk_rev (nx_nn h.opp), rk_nx h.opp (by unfold opp; split <;> omega), rk_rev h]
  omega
theorem Prev_any (n : Nat) (w : World) (h : NN n) : Calls Tryz.prog 111 #[.int .i64 (iw n)] w fun e w' => e = .returned (.int .i64 (iw (pv n))) ∧ w = w' := by
  have a := Neg_word n w h
  have b := Next_any (opp n) w h.opp
  have c := Neg_word (nx (opp n)) w (nx_nn h.opp)
  unfold pv
  clear h
  go_enter Tryz.func111, Tryz.ntmps111
  go_wp2_with (first
    | (go_at_call 73; ((with_reducible refine a.mono ?_)); rintro e w' ⟨rfl, rfl⟩)
    | (go_at_call 110; ((with_reducible refine b.mono ?_)); rintro e w' ⟨rfl, rfl⟩)
    | (go_at_call 73; ((with_reducible refine c.mono ?_)); rintro e w' ⟨rfl, rfl⟩))
  go_ret
  exact ⟨rfl, rfl⟩
theorem signed_any (n : Nat) (b : Bool) (w : World) (h : NN n) : Calls Tryz.prog 112 #[.int .i64 (iw n), .bool b] w fun e w' => e = .returned (.int .i64 (iw (if n % 9223372036854775808 = 0 then (if b then 9223372036854775808 else 0) else n))) ∧ w = w' := by
  have a := Class_any n w h.1
  have c : Calls Tryz.prog 73 #[.int .i64 0] w fun e w' => e = .returned (.int .i64 (-9223372036854775808)) ∧ w = w' := Neg_word 0 w ⟨by omega, by omega⟩
  by_cases g : n % 9223372036854775808 = 0
  · rw [if_pos g]
    have hc : cls n = 0 := by unfold cls ef ff; rw [if_neg (by omega), if_pos (by omega), if_pos (by omega)]
    rw [hc] at a
    clear h g hc
    cases b
    · go_enter Tryz.func112, Tryz.ntmps112
      go_wp2_with (go_at_call 60; ((with_reducible refine a.mono ?_)); rintro e w' ⟨rfl, rfl⟩)
      go_ret
      exact ⟨rfl, rfl⟩
    · go_enter Tryz.func112, Tryz.ntmps112
      go_wp2_with (first
        | (go_at_call 60; ((with_reducible refine a.mono ?_)); rintro e w' ⟨rfl, rfl⟩)
        | (go_at_call 73; ((with_reducible refine c.mono ?_)); rintro e w' ⟨rfl, rfl⟩))
      go_ret
      exact ⟨rfl, rfl⟩
  · rw [if_neg g]
    have hc : (cls n != 0) = true := by
      rw [bne_iff_ne]
      have := h.1
      unfold cls ef ff
      split
      · split <;> omega
      · split
        · split <;> omega
        · omega
    clear h g
    generalize cls n = k at *
    go_enter Tryz.func112, Tryz.ntmps112
    go_wp2_with (go_at_call 60; ((with_reducible refine a.mono ?_)); rintro e w' ⟨rfl, rfl⟩)
    go_ret
    exact ⟨rfl, rfl⟩
end
section
open Go.RowKit
theorem caught_idle (p : Addr) (w : World) :
    CallsD Tryz.prog 62 #[.pointer (some p)] .returning w fun e u' w' => e = .returned (.tuple #[]) ∧ u' = .returning ∧ w' = w := by
  refine callsD_of_wpS Tryz.func62 rfl fun c₀ cs hu => ?_
  apply wpS_seq
  apply wpS_region
  simp [wpOpsS, go_sem, recoverD, hu, Tryz.ntmps62, Exit.thenS]
  apply wpS_seq
  apply wpS_seq
  apply wpS_region
  simp [wpOpsS, go_sem, Exit.thenS]
  refine wpS_cond (t := true) (by simp [Act.eval]) ?_
  simp only [if_true]
  refine wpS_of_wp (wp_ret ?_)
  cases c₀
  simp_all [Exit.thenS, bodyPostS, results, Tryz.results62]
def NumK (w : World) (v : Value) (K : Nat) (U : Int) : Prop := ∃ M E : Int, Num w v M E ∧ -(K : Int) ≤ E ∧ U = M * 2 ^ (E + K).toNat
theorem NumK.still {w w' : World} {v : Value} {K : Nat} {U : Int} (h : NumK w v K U) (t : Turn (fun _ => False) w w') : NumK w' v K U := by
  obtain ⟨M, E, h1, h2, h3⟩ := h
  exact ⟨M, E, h1.still t, h2, h3⟩
def KRes (w : World) (K : Nat) (U : Int) (en : Ending) (w' : World) : Prop := ∃ v, en = .returned v ∧ NumK w' v K U ∧ Turn (fun _ => False) w w'
theorem ToldRes.k {w w' : World} {m e : Int} {en : Ending} {K : Nat} (h : ToldRes w m e en w') (hK : -(K : Int) ≤ e) : KRes w K (m * 2 ^ (e + K).toNat) en w' := by
  obtain ⟨v, M, E, h1, h2, h3, h4, -⟩ := h
  refine ⟨v, h1, ?_, h4⟩
  rcases h3 with ⟨rfl, rfl, rfl⟩ | ⟨t, rfl, rfl, -⟩
  · exact ⟨0, 0, h2, by omega, by rw [Int.zero_mul, Int.zero_mul]⟩
  · refine ⟨M, _, h2, by omega, ?_⟩
    rw [Int.mul_assoc, ← Int.pow_add]
    congr 2
    omega
theorem told_k (p : Nat) (o : Option (Nat × Nat)) (m e : Int) (K : Nat) (w : World) (hI : It w p o m) (hb : bl m.natAbs ≤ 60000) (he1 : -(K : Int) ≤ e) (he2 : e ≤ 900000) (hK : K ≤ 1000000) (hT : Tab w) :
    Calls Tryz.prog 93 #[.agg #[.pointer (some ⟨p, 0, none⟩), .int .i64 e]] w (KRes w K (m * 2 ^ (e + K).toNat)) :=
  (told_any p o m e w hI hb (by omega) (fun t q h => by
    have := tz_lt (x := m.natAbs) (t := t) ⟨q, h⟩ hb
    omega) hT).mono fun _ _ h => h.k he1
structure Bx (w : World) (b : Nat) : Prop where
  c0 : w.cell? ⟨b, 0, none⟩ = some (.bool false)
  c1 : w.cell? ⟨b, 1, none⟩ = some (.slice none 0 0)
  c2 : w.cell? ⟨b, 2, none⟩ = some (.int .i64 0)
  f0 : w.frozen? ⟨b, 0, none⟩ = false
  f1 : w.frozen? ⟨b, 1, none⟩ = false
  f2 : w.frozen? ⟨b, 2, none⟩ = false
  rest : ∀ i, 3 ≤ i → w.cell? ⟨b, i, none⟩ = none
theorem Bx.lt {w : World} {b : Nat} (h : Bx w b) : b < w.heap.size := World.block_lt_of_cell? w _ h.c0
theorem Bx.turn {S : Nat → Prop} {w w' : World} {b : Nat} (h : Bx w b) (t : Turn S w w') (hb : ¬ S b) : Bx w' b := by
  have hl := h.lt
  obtain ⟨h0, h1, h2, f0, f1, f2, hr⟩ := h
  exact ⟨(t.cell (p := ⟨b, 0, none⟩) hl hb).trans h0, (t.cell (p := ⟨b, 1, none⟩) hl hb).trans h1, (t.cell (p := ⟨b, 2, none⟩) hl hb).trans h2,
    (t.frozen (p := ⟨b, 0, none⟩) hl hb).trans f0, (t.frozen (p := ⟨b, 1, none⟩) hl hb).trans f1, (t.frozen (p := ⟨b, 2, none⟩) hl hb).trans f2, fun i hi => (t.cell (p := ⟨b, i, none⟩) hl hb).trans (hr i hi)⟩
theorem Bx.still {w w' : World} {b : Nat} (h : Bx w b) (t : Turn (fun _ => False) w w') : Bx w' b := h.turn t id
theorem Bx.made (t : TypeId) (w : World) : Bx (w.alloc (.cells #[.bool false, .slice none 0 0, .int .i64 0] t)) w.heap.size :=
  ⟨cell_made _ _ _ 0, cell_made _ _ _ 1, cell_made _ _ _ 2, frozen_made _ _ _ 0, frozen_made _ _ _ 1, frozen_made _ _ _ 2, fun i hi => by
    rw [cell_made]
    exact Array.getElem?_eq_none (by simpa using hi)⟩
theorem Bx.away {w : World} {b : Nat} (h : Bx w b) {neg : Bool} {a : Option Addr} {n : Nat} {x m : Int} {d : Nat → Nat} (hn : NumOk w neg a n x d m) : n = 0 ∨ ∀ o, a ≠ some ⟨b, o, none⟩ := by
  rcases Nat.eq_zero_or_pos n with g | g
  · exact .inl g
  · right
    intro o e
    rcases hn.ds with g1 | ⟨b', o', g1, g2⟩
    · omega
    · rw [e] at g1
      obtain ⟨rfl, rfl⟩ : b = b' ∧ o = o' := by
        have := Option.some.inj g1
        exact ⟨congrArg Addr.block this, congrArg Addr.off this⟩
      have hc := (g2 (n - 1) (by omega)).1
      have hd := hn.hi.resolve_left (by omega)
      rcases (by omega : o + (n - 1) = 0 ∨ o + (n - 1) = 1 ∨ o + (n - 1) = 2 ∨ 3 ≤ o + (n - 1)) with q | q | q | q
      · rw [q, h.c0] at hc; cases hc
      · rw [q, h.c1] at hc; cases hc
      · rw [q, h.c2] at hc
        have : ((d (n - 1) : Nat) : Int) = 0 := by injection hc with e1; injection e1 with _ e2; exact e2.symm
        omega
      · rw [h.rest _ q] at hc; cases hc
theorem put3 (w : World) (b : Nat) (x y z : Value) : Turn (fun k => k = b) w (((w.setCell ⟨b, 0, none⟩ x).setCell ⟨b, 1, none⟩ y).setCell ⟨b, 2, none⟩ z) :=
  (((Turn.refl (fun k => k = b) w).setCell (p := ⟨b, 0, none⟩) (fun _ => rfl) x).setCell (p := ⟨b, 1, none⟩) (fun _ => rfl) y).setCell (p := ⟨b, 2, none⟩) (fun _ => rfl) z
theorem NumK.turn {S : Nat → Prop} {w w' : World} {v : Value} {K : Nat} {U : Int} (h : NumK w v K U) (t : Turn S w w') (hs : ∀ k, S k → Bx w k) : NumK w' v K U := by
  obtain ⟨M, E, ⟨neg, a, n, c, d, e, h⟩, h2, h3⟩ := h
  refine ⟨M, E, ⟨neg, a, n, c, d, e, ?_⟩, h2, h3⟩
  refine ⟨h.sgn, ?_, h.le, h.val, h.hi, h.lo, h.exp1, h.exp2, h.zero⟩
  rcases h.ds with g | ⟨k, o, g1, g2⟩
  · exact .inl g
  · by_cases hk : S k
    · rcases (hs k hk).away h with g | g
      · exact .inl g
      · exact absurd g1 (g o)
    · exact .inr ⟨k, o, g1, g2.turn t hk⟩
theorem NumK.form {w : World} {v : Value} {K : Nat} {U : Int} (h : NumK w v K U) : ∃ s a n c E, v = .agg #[.bool s, .slice a n c, .int .i64 E] := by
  obtain ⟨M, E, ⟨neg, a, n, c, d, e, -⟩, -⟩ := h
  exact ⟨neg, a, n, c, E, e⟩
theorem NumK.put {w wb wz : World} {b K : Nat} {U : Int} {v : Value} (hn : NumK wb v K U) (t : Turn (fun _ => False) w wb) (hb : Bx wb b) (hl : w.heap.size ≤ b) (hz : Turn (fun k => k = b) wb wz) : KRes w K U (.returned v) wz :=
  ⟨v, rfl, hn.turn hz (fun k e => by subst e; exact hb), t.trans hz fun k hk e => by omega⟩
set_option maxRecDepth 100000 in
set_option maxHeartbeats 1000000 in
theorem of_any (neg : Bool) (m : Nat) (e : Int) (w : World) (hm : m < 9007199254740992) (he : -1074 ≤ e ∧ e ≤ 1000) (hT : Tab w) :
    Calls Tryz.prog 97 #[.bool neg, .int .i64 (m : Int), .int .i64 e, .bool true] w (KRes w 1074 ((if neg then -(m : Int) else (m : Int)) * 2 ^ (e + 1074).toNat)) := by
  generalize hx : (if neg then -(m : Int) else (m : Int)) = x
  have hxa : x.natAbs = m := by subst hx; split <;> omega
  have t0 := (Turn.refl (fun _ => False) w).alloc (.cells #[.bool false, .slice none 0 0, .int .i64 0] 53)
  have hb := Bx.made 53 w
  have hN := NewInt_any x (by rw [hxa]; omega) (w.alloc (.cells #[.bool false, .slice none 0 0, .int .i64 0] 53))
  have e1 : IntKind.i64.wrap (-(m : Int)) = -(m : Int) := by rw [IntKind.wrap_i64]; omega
  have hD : ∀ wa p o, It wa p o x → Turn (fun _ => False) (w.alloc (.cells #[.bool false, .slice none 0 0, .int .i64 0] 53)) wa → Calls Tryz.prog 93 #[.agg #[.pointer (some ⟨p, 0, none⟩), .int .i64 e]] wa (KRes wa 1074 (x * 2 ^ (e + 1074).toNat)) := fun wa p o h t =>
    told_k p o x e 1074 wa h (Nat.le_trans (bl_le (k := 53) (by rw [hxa]; exact hm)) (by omega)) (by omega) (by omega) (by omega) ((hT.still t0).still t)
  replace hb := Lib.hid hb
  clear hxa hm he hT
  replace t0 := Lib.hid t0
  cases neg
  · have hx' : x = m := by rw [← hx]; rfl
    subst hx'
    clear hx
    go_enter Tryz.func97, Tryz.ntmps97
    go_wp2_with (first
      | (go_at_call 126; ((with_reducible refine hN.mono ?_)); rintro en wa ⟨p, o, rfl, h1, h2, h3⟩)
      | (go_at_call 93; ((with_reducible refine (hD _ _ _ h1 h3).mono ?_)); rintro en wb ⟨v, rfl, g1, g2⟩
         obtain ⟨s, a, n, c, E, rfl⟩ := g1.form
         have hq := (hb.out.still h3).still g2
         obtain ⟨q0, q1, q2, f0, f1, f2, -⟩ := hq
         have hq := Lib.hid ((hb.out.still h3).still g2)
         have ht := Lib.hid ((t0.out.trans' h3).trans' g2)
         replace g1 := Lib.hid g1))
    have r := set3 (.bool s) (.slice a n c) (.int .i64 E) q0 q1 q2
    have hz := put3 wb w.heap.size (.bool s) (.slice a n c) (.int .i64 E)
    generalize ((wb.setCell ⟨w.heap.size, 0, none⟩ (.bool s)).setCell ⟨w.heap.size, 1, none⟩ (.slice a n c)).setCell ⟨w.heap.size, 2, none⟩ (.int .i64 E) = wz at *
    obtain ⟨r0, r1, r2⟩ := r
    refine bodyPost_ret (v := .agg #[.bool s, .slice a n c, .int .i64 E]) (by simp [results, Tryz.results97, go_sem, r0, r1, r2]) rfl ?_
    exact g1.out.put ht.out hq.out (Nat.le_refl _) hz
  · have hx' : x = -(m : Int) := by rw [← hx]; rfl
    subst hx'
    clear hx
    go_enter Tryz.func97, Tryz.ntmps97
    go_wp2_with (first
      | (go_at_call 126; ((with_reducible refine hN.mono ?_)); rintro en wa ⟨p, o, rfl, h1, h2, h3⟩)
      | (go_at_call 93; ((with_reducible refine (hD _ _ _ h1 h3).mono ?_)); rintro en wb ⟨v, rfl, g1, g2⟩
         obtain ⟨s, a, n, c, E, rfl⟩ := g1.form
         have hq := (hb.out.still h3).still g2
         obtain ⟨q0, q1, q2, f0, f1, f2, -⟩ := hq
         have hq := Lib.hid ((hb.out.still h3).still g2)
         have ht := Lib.hid ((t0.out.trans' h3).trans' g2)
         replace g1 := Lib.hid g1))
    have r := set3 (.bool s) (.slice a n c) (.int .i64 E) q0 q1 q2
    have hz := put3 wb w.heap.size (.bool s) (.slice a n c) (.int .i64 E)
    generalize ((wb.setCell ⟨w.heap.size, 0, none⟩ (.bool s)).setCell ⟨w.heap.size, 1, none⟩ (.slice a n c)).setCell ⟨w.heap.size, 2, none⟩ (.int .i64 E) = wz at *
    obtain ⟨r0, r1, r2⟩ := r
    refine bodyPost_ret (v := .agg #[.bool s, .slice a n c, .int .i64 E]) (by simp [results, Tryz.results97, go_sem, r0, r1, r2]) rfl ?_
    exact g1.out.put ht.out hq.out (Nat.le_refl _) hz
end
section
open Go.RowKit
def KRes2 (w : World) (K : Nat) (U : Int) (en : Ending) (w' : World) : Prop := ∃ v, en = .returned (.tuple #[v, .int .i64 0]) ∧ NumK w' v K U ∧ Turn (fun _ => False) w w'
theorem fv_parts {n : Nat} (h : Fin64 n) : (if decide (fv n < 0 ∨ iw n < 0) then -(mant n : Int) else (mant n : Int)) * 2 ^ (expo n + 1074).toNat = fv n := by
  have hm := fv_mant n h
  have e : (2 : Int) ^ (expo n + 1074).toNat = ((2 ^ (expo n + 1074).toNat : Nat) : Int) := by rw [Int.natCast_pow]; rfl
  have h1 := iw_neg h.1
  have h2 := @fv_neg n
  rw [e]
  by_cases g : iw n < 0
  · rw [if_pos (decide_eq_true (.inr g)), Int.neg_mul, ← Int.natCast_mul, ← hm]
    unfold fv
    rw [if_pos (h1.1 g)]
  · have g2 : ¬ fv n < 0 := fun k => g (h1.2 (h2.1 k).1)
    rw [if_neg (by simp only [decide_eq_true_eq]; rintro (k | k); exact g2 k; exact g k), ← Int.natCast_mul, ← hm]
    unfold fv
    rw [if_neg (fun k => g (h1.2 k))]
theorem mant_lt (n : Nat) : mant n < 9007199254740992 := by unfold mant ff; split <;> omega
theorem expo_le {n : Nat} (h : Fin64 n) : -1074 ≤ expo n ∧ expo n ≤ 1000 := by
  have := (Fin64.iff h.1).1 h
  have : ef n < 2048 := Nat.mod_lt _ (by omega)
  unfold expo; split <;> omega
theorem put4 {w : World} {b b' : Nat} {u0 u1 u2 u3 : Value} (hne : b ≠ b') (x y z v : Value) (q0 : w.cell? ⟨b, 0, none⟩ = some u0) (q1 : w.cell? ⟨b, 1, none⟩ = some u1) (q2 : w.cell? ⟨b, 2, none⟩ = some u2) (q3 : w.cell? ⟨b', 0, none⟩ = some u3) :
    let wz := ((((w.setCell ⟨b, 0, none⟩ x).setCell ⟨b, 1, none⟩ y).setCell ⟨b, 2, none⟩ z).setCell ⟨b', 0, none⟩ v)
    (wz.cell? ⟨b, 0, none⟩ = some x ∧ wz.cell? ⟨b, 1, none⟩ = some y ∧ wz.cell? ⟨b, 2, none⟩ = some z ∧ wz.cell? ⟨b', 0, none⟩ = some v) ∧ Turn (fun k => k = b ∨ k = b') w wz := by
  intro wz
  obtain ⟨r0, r1, r2⟩ := set3 x y z q0 q1 q2
  have t := put3 w b x y z
  have r3 := (t.cell (p := ⟨b', 0, none⟩) (World.block_lt_of_cell? w _ q3) (fun e => hne e.symm)).trans q3
  have t2 := (Turn.refl (fun k => k = b') (((w.setCell ⟨b, 0, none⟩ x).setCell ⟨b, 1, none⟩ y).setCell ⟨b, 2, none⟩ z)).setCell (p := ⟨b', 0, none⟩) (fun _ => rfl) v
  have hl := World.block_lt_of_cell? _ _ r0
  refine ⟨⟨(t2.cell (p := ⟨b, 0, none⟩) hl hne).trans r0, (t2.cell (p := ⟨b, 1, none⟩) hl hne).trans r1, (t2.cell (p := ⟨b, 2, none⟩) hl hne).trans r2, World.cell?_setCell_same _ _ _ r3⟩, ?_⟩
  exact (t.mono fun _ _ h => .inl h).trans' (t2.mono fun _ _ h => .inr h)
theorem NumK.put2 {w wb wz : World} {b b' K : Nat} {U : Int} {v u3 : Value} (hn : NumK wb v K U) (t : Turn (fun _ => False) w wb) (hb : Bx wb b) (hl : w.heap.size ≤ b) (hl' : w.heap.size ≤ b') (hc : wb.cell? ⟨b', 0, none⟩ = some (.int .i64 0)) (hr : ∀ i, 1 ≤ i → wb.cell? ⟨b', i, none⟩ = none) (hz : Turn (fun k => k = b ∨ k = b') wb wz) (_ : u3 = u3) : KRes2 w K U (.returned (.tuple #[v, .int .i64 0])) wz := by
  refine ⟨v, rfl, ?_, t.trans hz fun k hk e => by omega⟩
  obtain ⟨M, E, ⟨neg, a, n, c, d, e, h⟩, h2, h3⟩ := hn
  refine ⟨M, E, ⟨neg, a, n, c, d, e, ?_⟩, h2, h3⟩
  refine ⟨h.sgn, ?_, h.le, h.val, h.hi, h.lo, h.exp1, h.exp2, h.zero⟩
  rcases h.ds with g | ⟨k, o, g1, g2⟩
  · exact .inl g
  · by_cases hn0 : n = 0
    · exact .inl hn0
    · refine .inr ⟨k, o, g1, g2.turn hz ?_⟩
      rintro (rfl | rfl)
      · rcases hb.away h with g | g
        · exact hn0 g
        · exact g o g1
      · have hc2 := (g2 (n - 1) (by omega)).1
        have hd := h.hi.resolve_left hn0
        by_cases q : o + (n - 1) = 0
        · rw [q, hc] at hc2
          have : ((d (n - 1) : Nat) : Int) = 0 := by injection hc2 with e1; injection e1 with _ e2; exact e2.symm
          omega
        · rw [hr _ (by omega)] at hc2; cases hc2
set_option maxRecDepth 100000 in
set_option maxHeartbeats 1000000 in
theorem Of_any (n : Nat) (w : World) (h : Fin64 n) (hT : Tab w) : Calls Tryz.prog 67 #[.int .i64 (iw n)] w (KRes2 w 1074 (fv n)) := by
  have t0 := (Turn.refl (fun _ => False) w).alloc (.cells #[.bool false, .slice none 0 0, .int .i64 0] 53)
  have t1 := t0.alloc (.cells #[.int .i64 0] 30)
  have hb := (Bx.made 53 w).still ((Turn.refl (fun _ => False) _).alloc (.cells #[.int .i64 0] 30))
  have hc := cell_made #[.int .i64 0] 30 (w.alloc (.cells #[.bool false, .slice none 0 0, .int .i64 0] 53)) 0
  have hf := frozen_made #[.int .i64 0] 30 (w.alloc (.cells #[.bool false, .slice none 0 0, .int .i64 0] 53)) 0
  have hs : ((w.alloc (.cells #[.bool false, .slice none 0 0, .int .i64 0] 53)).alloc (.cells #[.int .i64 0] 30)).heap.size = w.heap.size + 1 + 1 := by simp
  rw [size_alloc] at hc hf
  have hl : w.heap.size + 1 < ((w.alloc (.cells #[.bool false, .slice none 0 0, .int .i64 0] 53)).alloc (.cells #[.int .i64 0] 30)).heap.size := by rw [hs]; omega
  have hl := Lib.hid hl
  have hrest : ∀ i, 1 ≤ i → ((w.alloc (.cells #[.bool false, .slice none 0 0, .int .i64 0] 53)).alloc (.cells #[.int .i64 0] 30)).cell? ⟨w.heap.size + 1, i, none⟩ = none := fun i hi => by
    rw [← size_alloc w (.cells #[.bool false, .slice none 0 0, .int .i64 0] 53), cell_made]
    exact Array.getElem?_eq_none (by simpa using hi)
  replace hrest := Lib.hid hrest
  have hP := Parts_any n
  have hO := of_any (decide (fv n < 0 ∨ iw n < 0)) (mant n) (expo n) ((w.alloc (.cells #[.bool false, .slice none 0 0, .int .i64 0] 53)).alloc (.cells #[.int .i64 0] 30)) (mant_lt n) (expo_le h) (hT.still t1)
  rw [fv_parts h] at hO
  generalize decide (fv n < 0 ∨ iw n < 0) = neg at *
  generalize mant n = m at *
  generalize expo n = e at *
  have hP := fun w => hP w h
  generalize fv n = z at *
  clear h hT
  replace hb := Lib.hid hb
  replace t0 := Lib.hid t0
  replace t1 := Lib.hid t1
  replace hs := Lib.hid hs
  go_enter_defers Tryz.func67, Tryz.ntmps67
  go_wp2_with (first
    | (go_at_call 96; ((with_reducible refine (hP _).mono ?_)); rintro en wa ⟨rfl, rfl⟩)
    | (go_at_call 97; ((with_reducible refine hO.mono ?_)); rintro en wb ⟨v, rfl, g1, g2⟩
       obtain ⟨s, a, k, c, E, rfl⟩ := g1.form
       have hq := hb.out.still g2
       obtain ⟨q0, q1, q2, f0, f1, f2, -⟩ := hq
       have hq := Lib.hid (hb.out.still g2)
       have ht := Lib.hid (t1.out.trans' g2)
       have d0 := (g2.cell (p := ⟨w.heap.size + 1, 0, none⟩) hl.out id).trans hc
       have dr := Lib.hid (fun i (hi : 1 ≤ i) => (g2.cell (p := ⟨w.heap.size + 1, i, none⟩) hl.out id).trans (hrest.out i hi))
       have d1 := (g2.frozen (p := ⟨w.heap.size + 1, 0, none⟩) hl.out id).trans hf
       replace g1 := Lib.hid g1
       replace g2 := Lib.hid g2))
  obtain ⟨r, hz⟩ := put4 (b := w.heap.size) (b' := w.heap.size + 1) (by omega) (.bool s) (.slice a k c) (.int .i64 E) (.int .i64 0) q0 q1 q2 d0
  generalize ((((wb.setCell ⟨w.heap.size, 0, none⟩ (.bool s)).setCell ⟨w.heap.size, 1, none⟩ (.slice a k c)).setCell ⟨w.heap.size, 2, none⟩ (.int .i64 E)).setCell ⟨w.heap.size + 1, 0, none⟩ (.int .i64 0)) = wz at *
  obtain ⟨r0, r1, r2, r3⟩ := r
  refine leaves_cons (f := 62) (args := #[.pointer (some ⟨w.heap.size + 1, 0, none⟩)]) (by simp) (by simp [go_sem]) ?_
  refine (caught_idle _ _).mono ?_
  rintro e u' w'' ⟨rfl, rfl, rfl⟩
  have hfin := g1.out.put2 (u3 := .nilIface) ht.out hq.out (Nat.le_refl _) (Nat.le_succ _) d0 dr.out hz rfl
  simp [Leaves, settle, results, Tryz.results67, go_sem, r0, r1, r2, r3]
  exact hfin
end
section
open Go.RowKit
def Nms (w : World) (b o n K : Nat) (U : Nat → Int) : Prop := ∀ j, j < n → ∃ s a k c E, w.cell? ⟨b, o + j * 3, none⟩ = some (.bool s) ∧ w.cell? ⟨b, o + j * 3 + 1, none⟩ = some (.slice a k c) ∧ w.cell? ⟨b, o + j * 3 + 2, none⟩ = some (.int .i64 E) ∧ NumK w (.agg #[.bool s, .slice a k c, .int .i64 E]) K (U j)
theorem Nms.lt {w : World} {b o n K : Nat} {U : Nat → Int} (h : Nms w b o n K U) (hn : 0 < n) : b < w.heap.size := by
  obtain ⟨s, a, k, c, E, h1, -⟩ := h 0 hn
  exact World.block_lt_of_cell? w _ h1
theorem Nms.still {w w' : World} {b o n K : Nat} {U : Nat → Int} (h : Nms w b o n K U) (t : Turn (fun _ => False) w w') : Nms w' b o n K U := fun j hj => by
  have hl := h.lt (by omega)
  obtain ⟨s, a, k, c, E, h1, h2, h3, h4⟩ := h j hj
  exact ⟨s, a, k, c, E, (t.cell (p := ⟨b, _, none⟩) hl id).trans h1, (t.cell (p := ⟨b, _, none⟩) hl id).trans h2, (t.cell (p := ⟨b, _, none⟩) hl id).trans h3, h4.still t⟩
structure Exs (w0 w : World) (b n K : Nat) (U : Nat → Int) (p : Nat → Nat) (o : Nat → Option (Nat × Nat)) (m e : Nat → Int) : Prop where
  c0 : ∀ j, j < n → w.cell? ⟨b, j * 2, none⟩ = some (.pointer (some ⟨p j, 0, none⟩))
  c1 : ∀ j, j < n → w.cell? ⟨b, j * 2 + 1, none⟩ = some (.int .i64 (e j))
  it : ∀ j, j < n → It w (p j) (o j) (m j)
  lo : ∀ j, j < n → -(K : Int) ≤ e j
  val : ∀ j, j < n → U j = m j * 2 ^ (e j + K).toNat
  hi : ∀ j, j < n → e j ≤ 1048576 ∧ bl (m j).natAbs ≤ 60000
  new : ∀ j, j < n → ∀ k, IB (p j) (o j) k → w0.heap.size ≤ k ∧ k ≠ b
  dis : ∀ i j, i < j → j < n → ∀ k, IB (p i) (o i) k → ¬ IB (p j) (o j) k
def at_ {α : Type} (f : Nat → α) (i : Nat) (v : α) (j : Nat) : α := if j = i then v else f j
theorem at_same {α : Type} (f : Nat → α) (i : Nat) (v : α) : at_ f i v i = v := if_pos rfl
theorem at_lt {α : Type} (f : Nat → α) {i j : Nat} (v : α) (h : j < i) : at_ f i v j = f j := if_neg (by omega)
theorem Exs.more {w0 w wz : World} {b n K : Nat} {U : Nat → Int} {p : Nat → Nat} {o : Nat → Option (Nat × Nat)} {m e : Nat → Int} (h : Exs w0 w b n K U p o m e) (t : Turn (fun k => k = b) w wz)
    (same : ∀ c, c < n * 2 → wz.cell? ⟨b, c, none⟩ = w.cell? ⟨b, c, none⟩) {q : Nat} {oq : Option (Nat × Nat)} {x E : Int} (r0 : wz.cell? ⟨b, n * 2, none⟩ = some (.pointer (some ⟨q, 0, none⟩))) (r1 : wz.cell? ⟨b, n * 2 + 1, none⟩ = some (.int .i64 E))
    (hI : It wz q oq x) (hw : ∀ k, IB q oq k → w.heap.size ≤ k) (hs : w0.heap.size ≤ w.heap.size) (hb : b < w.heap.size) (hlo : -(K : Int) ≤ E) (hv : U n = x * 2 ^ (E + K).toNat) (hh : E ≤ 1048576 ∧ bl x.natAbs ≤ 60000) :
    Exs w0 wz b (n + 1) K U (at_ p n q) (at_ o n oq) (at_ m n x) (at_ e n E) := by
  have cases : ∀ j, j < n + 1 → j < n ∨ j = n := fun j hj => by omega
  refine ⟨?_, ?_, ?_, ?_, ?_, ?_, ?_, ?_⟩
  · intro j hj
    rcases cases j hj with g | rfl
    · rw [at_lt _ _ g, same _ (by omega)]; exact h.c0 j g
    · rw [at_same]; exact r0
  · intro j hj
    rcases cases j hj with g | rfl
    · rw [at_lt _ _ g, same _ (by omega)]; exact h.c1 j g
    · rw [at_same]; exact r1
  · intro j hj
    rcases cases j hj with g | rfl
    · rw [at_lt _ _ g, at_lt _ _ g, at_lt _ _ g]; exact (h.it j g).turn t fun k hk => (h.new j g k hk).2
    · rw [at_same, at_same, at_same]; exact hI
  · intro j hj
    rcases cases j hj with g | rfl
    · rw [at_lt _ _ g]; exact h.lo j g
    · rw [at_same]; exact hlo
  · intro j hj
    rcases cases j hj with g | rfl
    · rw [at_lt _ _ g, at_lt _ _ g]; exact h.val j g
    · rw [at_same, at_same]; exact hv
  · intro j hj
    rcases cases j hj with g | rfl
    · rw [at_lt _ _ g, at_lt _ _ g]; exact h.hi j g
    · rw [at_same, at_same]; exact hh
  · intro j hj
    rcases cases j hj with g | rfl
    · rw [at_lt _ _ g, at_lt _ _ g]; exact h.new j g
    · rw [at_same, at_same]
      intro k hk
      have := hw k hk
      exact ⟨by omega, by omega⟩
  · intro i j hij hj
    rcases cases j hj with g | rfl
    · rw [at_lt _ _ g, at_lt _ _ g, at_lt _ _ (show i < n by omega), at_lt _ _ (show i < n by omega)]; exact h.dis i j hij g
    · rw [at_same, at_same, at_lt _ _ hij, at_lt _ _ hij]
      intro k hk g
      have := hw k g
      have := (h.it i hij).lt hk
      omega
theorem Exs.still {w0 w w' : World} {b n K : Nat} {U : Nat → Int} {p : Nat → Nat} {o : Nat → Option (Nat × Nat)} {m e : Nat → Int} (h : Exs w0 w b n K U p o m e) (t : Turn (fun _ => False) w w') : Exs w0 w' b n K U p o m e :=
  ⟨fun j hj => (t.cell (p := ⟨b, _, none⟩) (World.block_lt_of_cell? w _ (h.c0 j hj)) id).trans (h.c0 j hj), fun j hj => (t.cell (p := ⟨b, _, none⟩) (World.block_lt_of_cell? w _ (h.c1 j hj)) id).trans (h.c1 j hj), fun j hj => (h.it j hj).still t, h.lo, h.val, h.hi, h.new, h.dis⟩
def zerosE (c : Nat) : Obj := .cells (Array.ofFn (n := c * 2) fun i => if i.val % 2 = 0 then .pointer none else .int .i64 0) 97
theorem run_make_ex (c : Nat) (hc : c ≤ 1000000) (w : World) :
    (Instr.makeSlice 98 (.int .i64 (c : Int)) (.int .i64 (c : Int))).run Tryz.prog w = .ok (.slice (some ⟨w.heap.size, 0, none⟩) c c) (w.alloc (zerosE c)) := by
  have i3 : (Tryz.prog.info? 97).map (fun i => (i.zero, i.size, i.bytes)) = some (some (.agg #[.pointer none, .int .i64 0]), 2, 16) := by kernel_rfl
  obtain ⟨i0, hi, hz0, hz1, hz2⟩ := info_parts i3
  have hr := run_make (P := Tryz.prog) w 98 97 i0 (.agg #[.pointer none, .int .i64 0]) (by kernel_rfl) hi hz0 .i64 .i64 (c : Int) (c : Int) (by omega) (by omega) (by rw [hz2]; omega) (by omega)
  rw [hr, hz1]
  simp only [Int.toNat_natCast]
  have e : madeCells (Value.agg #[.pointer none, .int .i64 0]).cells (c * 2) = Array.ofFn (n := c * 2) fun i => if i.val % 2 = 0 then (.pointer none : Value) else .int .i64 0 := by
    have : (Value.agg #[.pointer none, .int .i64 0]).cells = #[.pointer none, .int .i64 0] := by simp [Value.cells]
    rw [this]
    apply Array.ext
    · simp [madeCells]
    · intro i h1 h2
      simp only [madeCells, Array.getElem_ofFn]
      rcases Nat.mod_two_eq_zero_or_one i with g | g <;> simp [g]
  rw [e]
  rfl
end
end Go.Proofs.YtllapbkoildfiaaGreatFmt
