/- dyadic.plus: the walk. -/
import Derived.Test.YtllapbkoildfiaaGreatFmtM21
set_option linter.all false
namespace Go.Proofs.YtllapbkoildfiaaGreatFmt
section
open Go.RowKit
def lk (o : Op) : Op := o
@[simp, go_sem] theorem lk_eq (o : Op) : lk o = o := rfl
theorem sgn_zero {x : Int} : (sgn x == 0) = decide (x = 0) := by
  unfold sgn
  by_cases h : x < 0
  · rw [if_pos h, decide_eq_false (by omega)]; rfl
  · rw [if_neg h]
    by_cases h0 : x = 0
    · rw [if_pos h0, decide_eq_true h0]; rfl
    · rw [if_neg h0, decide_eq_false h0]; rfl
theorem bl_shift {x : Int} {sh : Nat} (h : bl x.natAbs ≤ 100000) (hs : sh ≤ 39010) : bl (x * 2 ^ sh).natAbs ≤ 6000000 := by
  rw [Int.natAbs_mul, Int.natAbs_pow]
  refine Nat.le_trans (bl_le (k := bl x.natAbs + sh) ?_) (by omega)
  rw [Nat.pow_add]
  exact Nat.mul_lt_mul_of_pos_right bl_lt (Nat.two_pow_pos _)
set_option exponentiation.threshold 100000 in
theorem psum_lt {U : Nat → Int} {n i : Nat} (hn : n ≤ 1000) (hU : ∀ j, j < n → (U j).natAbs < 2 ^ 39000) (hi : i ≤ n) : (psum U i).natAbs < 2 ^ 39010 := by
  have h := psum_bound (B := 2 ^ 39000) (fun j hj => Nat.le_of_lt (hU j hj)) i hi
  refine Nat.lt_of_le_of_lt h ?_
  rw [show 39010 = 10 + 39000 by omega, Nat.pow_add]
  exact Nat.mul_lt_mul_of_pos_right (by omega) (Nat.two_pow_pos _)
theorem IB_own {W : World} {z k : Nat} {oz : Option (Nat × Nat)} {B : Nat} (h : IB z oz k) (ho : Own W none oz) (h1 : B + 1 ≤ z) (h2 : B + 1 ≤ W.heap.size) : B ≤ k ∧ k ≠ B := by
  rcases h with rfl | ⟨c, rfl⟩
  · omega
  · rcases ho k c rfl with ⟨d, g⟩ | g
    · cases g
    · omega
set_option maxRecDepth 100000 in
set_option maxHeartbeats 40000000 in
theorem plus_any (w0 : World) (b n c K : Nat) (a : Option Addr) (U : Nat → Int) (p : Nat → Nat) (o : Nat → Option (Nat × Nat)) (m e : Nat → Int) (w : World) (hn : n ≤ 1000) (hK : K ≤ 10000) (ha : n = 0 ∨ a = some ⟨b, 0, none⟩) (hE : Exs w0 w b n K U p o m e) (hU : ∀ j, j < n → (U j).natAbs < 2 ^ 39000) :
    Calls Tryz.prog 94 #[.slice a n c] w (PRes w K (psum U n)) := by
  have h0 : PRel (((w.alloc (.cells #[.pointer none, .int .i64 0] 97)).alloc (.cells #[.bool false, .slice none 0 0] 128)).alloc (.cells #[.pointer (some ⟨w.heap.size + 1, 0, none⟩), .int .i64 0] 97)) (w.heap.size + 1 + 1) K U 0 (((w.alloc (.cells #[.pointer none, .int .i64 0] 97)).alloc (.cells #[.bool false, .slice none 0 0] 128)).alloc (.cells #[.pointer (some ⟨w.heap.size + 1, 0, none⟩), .int .i64 0] 97)) (w.heap.size + 1) none 0 0 := by
    have s1 := size_alloc w (.cells #[.pointer none, .int .i64 0] 97)
    generalize w.alloc (.cells #[.pointer none, .int .i64 0] 97) = w1 at *
    have s2 := size_alloc w1 (.cells #[.bool false, .slice none 0 0] 128)
    have i2 := It.made w1
    rw [s1] at i2 s2
    generalize w1.alloc (.cells #[.bool false, .slice none 0 0] 128) = w2 at *
    rw [← s2]
    refine ⟨cell_made _ _ _ 0, cell_made _ _ _ 1, frozen_made _ _ _ 0, frozen_made _ _ _ 1, i2.still ((Turn.refl (fun _ => False) w2).alloc _), ?_, by omega, by omega, by simp [psum], Turn.refl _ _⟩
    intro k hk
    have := IB_none hk
    omega
  have t0 := (((Turn.refl (fun _ => False) w).alloc (.cells #[.pointer none, .int .i64 0] 97)).alloc (.cells #[.bool false, .slice none 0 0] 128)).alloc (.cells #[.pointer (some ⟨w.heap.size + 1, 0, none⟩), .int .i64 0] 97)
  have hsz : (((w.alloc (.cells #[.pointer none, .int .i64 0] 97)).alloc (.cells #[.bool false, .slice none 0 0] 128)).alloc (.cells #[.pointer (some ⟨w.heap.size + 1, 0, none⟩), .int .i64 0] 97)).heap.size = w.heap.size + 3 := by simp
  have r0 : (((w.alloc (.cells #[.pointer none, .int .i64 0] 97)).alloc (.cells #[.bool false, .slice none 0 0] 128)).alloc (.cells #[.pointer (some ⟨w.heap.size + 1, 0, none⟩), .int .i64 0] 97)).cell? ⟨w.heap.size, 0, none⟩ = some (.pointer none) := by
    have t := ((Turn.refl (fun _ => False) (w.alloc (.cells #[.pointer none, .int .i64 0] 97))).alloc (.cells #[.bool false, .slice none 0 0] 128)).alloc (.cells #[.pointer (some ⟨w.heap.size + 1, 0, none⟩), .int .i64 0] 97)
    exact (t.cell (p := ⟨w.heap.size, 0, none⟩) (by simp) id).trans (cell_made _ _ _ 0)
  have r1 : (((w.alloc (.cells #[.pointer none, .int .i64 0] 97)).alloc (.cells #[.bool false, .slice none 0 0] 128)).alloc (.cells #[.pointer (some ⟨w.heap.size + 1, 0, none⟩), .int .i64 0] 97)).cell? ⟨w.heap.size, 1, none⟩ = some (.int .i64 0) := by
    have t := ((Turn.refl (fun _ => False) (w.alloc (.cells #[.pointer none, .int .i64 0] 97))).alloc (.cells #[.bool false, .slice none 0 0] 128)).alloc (.cells #[.pointer (some ⟨w.heap.size + 1, 0, none⟩), .int .i64 0] 97)
    exact (t.cell (p := ⟨w.heap.size, 1, none⟩) (by simp) id).trans (cell_made _ _ _ 1)
  have q0 : (((w.alloc (.cells #[.pointer none, .int .i64 0] 97)).alloc (.cells #[.bool false, .slice none 0 0] 128)).alloc (.cells #[.pointer (some ⟨w.heap.size + 1, 0, none⟩), .int .i64 0] 97)).frozen? ⟨w.heap.size, 0, none⟩ = false := by
    have t := ((Turn.refl (fun _ => False) (w.alloc (.cells #[.pointer none, .int .i64 0] 97))).alloc (.cells #[.bool false, .slice none 0 0] 128)).alloc (.cells #[.pointer (some ⟨w.heap.size + 1, 0, none⟩), .int .i64 0] 97)
    exact (t.frozen (p := ⟨w.heap.size, 0, none⟩) (by simp) id).trans (frozen_made _ _ _ 0)
  have q1 : (((w.alloc (.cells #[.pointer none, .int .i64 0] 97)).alloc (.cells #[.bool false, .slice none 0 0] 128)).alloc (.cells #[.pointer (some ⟨w.heap.size + 1, 0, none⟩), .int .i64 0] 97)).frozen? ⟨w.heap.size, 1, none⟩ = false := by
    have t := ((Turn.refl (fun _ => False) (w.alloc (.cells #[.pointer none, .int .i64 0] 97))).alloc (.cells #[.bool false, .slice none 0 0] 128)).alloc (.cells #[.pointer (some ⟨w.heap.size + 1, 0, none⟩), .int .i64 0] 97)
    exact (t.frozen (p := ⟨w.heap.size, 1, none⟩) (by simp) id).trans (frozen_made _ _ _ 1)
  replace h0 := Lib.hid h0
  replace t0 := Lib.hid t0
  replace hsz := Lib.hid hsz
  replace r0 := Lib.hid r0
  replace r1 := Lib.hid r1
  replace q0 := Lib.hid q0
  replace q1 := Lib.hid q1
  replace hE := Lib.hid hE
  replace hU := Lib.hid hU
  replace ha := Lib.hid ha
  go_enter Tryz.func94, Tryz.ntmps94
  go_wp2_with fail
  generalize ((w.alloc (.cells #[.pointer none, .int .i64 0] 97)).alloc (.cells #[.bool false, .slice none 0 0] 128)).alloc (.cells #[.pointer (some ⟨w.heap.size + 1, 0, none⟩), .int .i64 0] 97) = w2 at *
  go_loopw [10] (fun vi wr => ∃ (k : Nat) (q : Nat) (oq : Option (Nat × Nat)) (x E : Int), k ≤ n ∧ vi = .int .i64 k ∧ PRel w2 (w.heap.size + 1 + 1) K U k wr q oq x E) (fun vi _ => n - (intOf vi).toNat)
  case atStart => exact ⟨0, _, _, _, _, Nat.zero_le _, rfl, h0.out⟩
  case round =>
    obtain ⟨i, q, oq, x, E, hi, rfl, hrel⟩ := hrel
    by_cases hin : i < n
    · have ha1 := ha.out.resolve_left (by omega)
      subst ha1
      have tw : Turn (fun k => k = w.heap.size + 1 + 1) w wr := (t0.out.mono fun _ _ h => h.elim).trans' hrel.turn
      have hEr := hE.out.old tw fun k hk e => by omega
      have c0 := hEr.c0 i hin
      have c1 := hEr.c1 i hin
      have hIm := hEr.it i hin
      have hlo := hEr.lo i hin
      have hval := hEr.val i hin
      have hhi := (hEr.hi i hin).1
      have hab : ∀ k, IB (p i) (o i) k → k ≠ w.heap.size + 1 + 1 ∧ k + 2 ≠ w.heap.size + 1 + 1 := fun k hk => by
        have := (hE.out.it i hin).lt hk
        omega
      have t4 := (Turn.refl (fun _ => False) wr).alloc (.cells #[.pointer (some ⟨p i, 0, none⟩), .int .i64 (e i)] 97)
      have m0 := cell_made #[.pointer (some ⟨p i, 0, none⟩), .int .i64 (e i)] 97 wr 0
      have m1 := cell_made #[.pointer (some ⟨p i, 0, none⟩), .int .i64 (e i)] 97 wr 1
      have hsb : w.heap.size + 1 + 1 < wr.heap.size := World.block_lt_of_cell? wr _ hrel.s0
      have s4 := size_alloc wr (.cells #[.pointer (some ⟨p i, 0, none⟩), .int .i64 (e i)] 97)
      have hPB : PB wr (wr.alloc (.cells #[.pointer (some ⟨p i, 0, none⟩), .int .i64 (e i)] 97)) (w.heap.size + 1 + 1) q (p i) E (e i) :=
        ⟨(t4.cell (p := ⟨w.heap.size + 1 + 1, 0, none⟩) hsb id).trans hrel.s0, (t4.cell (p := ⟨w.heap.size + 1 + 1, 1, none⟩) hsb id).trans hrel.s1, (t4.frozen (p := ⟨w.heap.size + 1 + 1, 0, none⟩) hsb id).trans hrel.f0, (t4.frozen (p := ⟨w.heap.size + 1 + 1, 1, none⟩) hsb id).trans hrel.f1, m0, m1, t4, by omega, hsb⟩
      have hS1 := (Sign_any _ _ _ _ (hIm.still t4)).mono (R' := fun en w' => en = .returned (.int .i64 (sgn (m i))) ∧ PB wr w' (w.heap.size + 1 + 1) q (p i) E (e i)) fun en w' ⟨h1, h2⟩ => ⟨h1, h2 ▸ hPB⟩
      have hS2 := fun W (t : Turn (fun _ => False) wr W) => Sign_any _ _ _ _ (hrel.it.still t)
      have z1 := @sgn_zero (m i)
      have z2 := @sgn_zero x
      clear hPB m0 m1 s4 t4
      have hn1 : (0 : Int) ≤ (i : Int) := by omega
      have hn2 : (i : Int) < n := by omega
      generalize p i = pi at *
      generalize o i = oi at *
      generalize hmi : m i = mi at *
      generalize e i = ei at *
      generalize hUi : U i = Ui at *
      replace hEr := Lib.hid hEr
      replace hS2 := Lib.hid hS2
      replace hrel := Lib.hid hrel
      replace hIm := Lib.hid hIm
      replace tw := Lib.hid tw
      replace hlo := Lib.hid hlo
      replace hval := Lib.hid hval
      replace hhi := Lib.hid hhi
      replace hab := Lib.hid hab
      replace hUi := Lib.hid hUi
      clear ha hmi
      by_cases hm0 : mi = 0
      · have hU0 : U i = 0 := by rw [hUi.out, hval.out, hm0, Int.zero_mul]
        rw [decide_eq_true hm0] at z1
        replace hU0 := Lib.hid hU0
        clear hm0 hUi hval
        go_wp2_with (go_at_call 64; ((with_reducible refine hS1.mono ?_)); rintro en wa ⟨rfl, hB⟩; replace hB := Lib.hid hB)
        all_goals go_roundw
        case rel => exact ⟨i + 1, q, oq, x, E, by omega, by go_num, hrel.out.skip hB.out.t hU0.out⟩
        case measure => simp [intOf]; omega
      · rw [decide_eq_false hm0] at z1
        by_cases hx0 : x = 0
        · rw [decide_eq_true hx0] at z2
          have hst := Lib.hid (fun wa wz (hB : PB wr wa (w.heap.size + 1 + 1) q pi E ei) => hrel.out.put (wz := wz) (wa := wa) hB.t (hIm.out.still hB.t) hab.out hB.d0 hB.d1 hlo.out hhi.out (by rw [hrel.out.val, hx0, Int.zero_mul, Int.zero_add, hUi.out]; exact hval.out))
          clear hx0 hm0 hUi
          go_wp2_with (first
            | (go_at_call 64; ((with_reducible refine hS1.mono ?_)); rintro en wa ⟨rfl, hB1⟩; (have hS3 := hS2.out _ hB1.t); (have hB := Lib.hid hB1); obtain ⟨d0, d1, g0, g1, m0, m1, -, hsz2, hsl⟩ := hB1)
            | (go_at_call 64; ((with_reducible refine hS3.mono ?_)); rintro en wc ⟨rfl, rfl⟩))
          all_goals go_roundw
          case rel => exact ⟨i + 1, pi, oi, mi, ei, by omega, by go_num, hst.out _ _ hB.out rfl⟩
          case measure => simp [intOf]; omega
        · rw [decide_eq_false hx0] at z2
          by_cases hge : E ≤ ei
          · have hd := decide_eq_true hge
            go_wp2_with (first
              | (go_at_call 64; ((with_reducible refine hS1.mono ?_)); rintro en wa ⟨rfl, hB1⟩; (have hS3 := hS2.out _ hB1.t); (have hB := Lib.hid hB1); obtain ⟨d0, d1, g0, g1, m0, m1, -, hsz2, hsl⟩ := hB1)
              | (go_at_call 64; ((with_reducible refine hS3.mono ?_)); rintro en wc ⟨rfl, rfl⟩))
            set_option exponentiation.threshold 100000 in obtain ⟨hb1, hb2⟩ := mul_pow_bound hval.out hm0 (hUi.out ▸ hU.out i hin)
            obtain ⟨hb3, hb4⟩ := mul_pow_bound hrel.out.val hx0 (psum_lt hn hU.out (Nat.le_of_lt hin))
            have hl1 := hlo.out
            have hl2 := hrel.out.lo
            have hw1 : IntKind.i64.wrap (ei - E) = ei - E := IntWalk.i64_in _ (by omega)
            have hw2 : IntKind.u64.wrap (ei - E) = ei - E := by rw [IntKind.wrap_u64]; omega
            obtain ⟨sh, hsh⟩ : ∃ sh : Nat, ei - E = (sh : Int) := ⟨(ei - E).toNat, by omega⟩
            have hsl9 : sh ≤ 39010 := by omega
            have hbv : bl (mi * 2 ^ sh).natAbs ≤ 6000000 := bl_shift (by omega) hsl9
            have hL : ∀ W z, Turn (fun _ => False) wr W → It W z none 0 → wr.heap.size < z → Calls Tryz.prog 124 #[.pointer (some ⟨z, 0, none⟩), .pointer (some ⟨pi, 0, none⟩), .int .u64 (ei - E)] W (IRes W z none (mi * 2 ^ sh)) := fun W z t h hz => by
              rw [hsh]
              refine Lsh_any z none 0 pi oi mi sh W h (hIm.out.still t) (.inr fun k hk g => ?_) (by omega) (by omega) (fun _ => rfl)
              have := IB_none hk
              have := hIm.out.lt g
              omega
            have hA := Lib.hid (show ∀ W z y oy, Turn (fun _ => False) wr W → It W z none 0 → It W y oy (mi * 2 ^ sh) → Calls Tryz.prog 134 #[.pointer (some ⟨z, 0, none⟩), .pointer (some ⟨q, 0, none⟩), .pointer (some ⟨y, 0, none⟩)] W (IRes W z none (x + mi * 2 ^ sh)) from fun W z y oy t h1 h2 =>
              Add_any z none 0 q oq x y oy _ W h1 (hrel.out.it.still t) h2 (by omega) hbv)
            have hve : psum U i + U i = (x + mi * 2 ^ sh) * 2 ^ (E + K).toNat := by
              rw [hrel.out.val, hUi.out, hval.out]
              have := add_same (x := x) (m := mi) (a := (E + K).toNat) (b := (ei + K).toNat) (by omega)
              rw [show (ei + K).toNat - (E + K).toNat = sh by omega] at this
              exact this
            have hfin := Lib.hid (show ∀ wc z oz wz, PB wr wc (w.heap.size + 1 + 1) q pi E ei → It wc z oz (x + mi * 2 ^ sh) → (∀ k, IB z oz k → w.heap.size + 1 + 1 ≤ k ∧ k ≠ w.heap.size + 1 + 1) → wz = ((wc.setCell ⟨w.heap.size + 1 + 1, 0, none⟩ (.pointer (some ⟨z, 0, none⟩))).setCell ⟨w.heap.size + 1 + 1, 1, none⟩ (.int .i64 E)) → PRel w2 (w.heap.size + 1 + 1) K U (i + 1) wz z oz (x + mi * 2 ^ sh) E from fun wc z oz wz hP h1 h2 => hrel.out.put hP.t h1 (fun k hk => by have := h2 k hk; omega) hP.d0 hP.d1 hrel.out.lo hrel.out.hi hve)
            have nsz := size_alloc wa (.cells #[.bool false, .slice none 0 0] 128)
            have ta := (Turn.refl (fun _ => False) wa).alloc (.cells #[.bool false, .slice none 0 0] 128)
            have P0 : PB wr wa.drew (w.heap.size + 1 + 1) q pi E ei := hB.out.more (Turn.refl (fun _ => False) wa).drew (fun k g => g.elim)
            have P1 := hB.out.more ta.drew (fun k g => g.elim)
            have P2 := hB.out.more (ta.alloc (.cells #[.bool false, .slice none 0 0] 128)).drew (fun k g => g.elim)
            have i1 := (It.made wa).drew
            have i2 := (It.made (wa.alloc (.cells #[.bool false, .slice none 0 0] 128))).drew
            have i3 := ((It.made wa).still ((Turn.refl (fun _ => False) _).alloc (.cells #[.bool false, .slice none 0 0] 128))).drew
            rw [nsz] at i2
            have hsz0 := hB.out.sz
            have hLA := hL _ _ P2.t i2 (by omega)
            have hLB := hL _ _ P2.t i3 (by omega)
            have hLC := hL _ _ P1.t i1 (by omega)
            obtain ⟨d0, d1, g0, g1, m0, m1, -, -, -⟩ := P0
            obtain ⟨e0, e1, h0', h1', n0, n1, -, -, -⟩ := P1
            obtain ⟨a0, a1, x0', x1', y0', y1', -, -, -⟩ := P2
            have P1 := Lib.hid (hB.out.more ta.drew (fun k g => g.elim))
            have P2 := Lib.hid (hB.out.more (ta.alloc (.cells #[.bool false, .slice none 0 0] 128)).drew (fun k g => g.elim))
            have iA := Lib.hid i3
            have iB := Lib.hid i2
            have hsl9 := hsl
            clear i1 i2 i3 hL ta nsz hB hb1 hb2 hb3 hb4 hl1 hl2 hbv hve hsh z1 z2 hd
            rw [show Op.load 95 (Operand.tmp 49) = lk (Op.load 95 (Operand.tmp 49)) from rfl]
            go_region_held3 (fun wx => wx.cell? ⟨w.heap.size + 1 + 1, 1, none⟩ = some (.int .i64 E) ∧ wx.cell? ⟨wr.heap.size, 0, none⟩ = some (.pointer (some ⟨pi, 0, none⟩)) ∧ wx.cell? ⟨wr.heap.size, 1, none⟩ = some (.int .i64 ei))
              (first | (refine ⟨?_, ?_, ?_⟩ <;> with_reducible assumption) | (refine ⟨?_, ?_, ?_⟩; exact (set2 _ _ d0 d1).2; all_goals (with_reducible refine cell_two ?_ (by assumption); dsimp only; omega)))
              (first
                | (go_at_call 124; ((with_reducible refine hLA.mono ?_)); rintro en wb ⟨rfl, oy, iy, ow, h3⟩
                   have tw := P2.out.t.trans h3 (fun k hk g => by (have := IB_none g; omega))
                   have iz := iA.out.turn h3 (fun k hk g => by (have := IB_none hk; have := IB_none g; omega))
                   have PB9 := P2.out.more h3 (fun k g => by (have := IB_none g; omega))
                   obtain ⟨d0, d1, g0, g1, m0, m1, -, -, -⟩ := PB9
                   have PB9 := Lib.hid (P2.out.more h3 (fun k g => by (have := IB_none g; omega)))
                   have hA2 := hA.out _ _ _ _ tw iz iy
                   have szb : w.heap.size + 1 + 1 < wa.heap.size := by omega
                   clear ow h3 iy iz tw)
                | (go_at_call 124; ((with_reducible refine hLB.mono ?_)); rintro en wb ⟨rfl, oy, iy, ow, h3⟩
                   have tw := P2.out.t.trans h3 (fun k hk g => by (have := IB_none g; omega))
                   have iz := iB.out.turn h3 (fun k hk g => by (have := IB_none hk; have := IB_none g; omega))
                   have PB9 := P2.out.more h3 (fun k g => by (have := IB_none g; omega))
                   obtain ⟨d0, d1, g0, g1, m0, m1, -, -, -⟩ := PB9
                   have PB9 := Lib.hid (P2.out.more h3 (fun k g => by (have := IB_none g; omega)))
                   have hA2 := hA.out _ _ _ _ tw iz iy
                   have szb : w.heap.size + 1 + 1 < wa.heap.size + 1 := by omega
                   clear ow h3 iy iz tw)
                | (go_at_call 124; ((with_reducible refine hLC.mono ?_)); rintro en wb ⟨rfl, oy, iy, ow, h3⟩
                   have tw := P1.out.t.trans h3 (fun k hk g => by (have := IB_none g; omega))
                   have szc := Nat.lt_of_lt_of_le P1.out.sz h3.size
                   have PB8 := P1.out.more h3 (fun k g => by (have := IB_none g; omega))
                   have ta := (Turn.refl (fun _ => False) wb).alloc (.cells #[.bool false, .slice none 0 0] 128)
                   have PB7 := PB8.more ta (fun k g => g.elim)
                   have hA2 := hA.out _ _ _ _ (tw.trans' ta) (It.made wb) (iy.still ta)
                   have PB9 := Lib.hid PB7
                   obtain ⟨d0, d1, g0, g1, m0, m1, -, -, -⟩ := PB8
                   obtain ⟨b0, b1, p0, p1, n0, n1, -, -, -⟩ := PB7
                   have szb : w.heap.size + 1 + 1 < wb.heap.size := by omega
                   clear ow h3 iy tw ta)
                | (go_at_call 134; ((with_reducible refine hA2.mono ?_)); rintro en wc ⟨rfl, oz, hz1, hz2, hz3⟩
                   have PBc := PB9.out.more hz3 (fun k g => by (have := IB_none g; omega))
                   have hst := Lib.hid (fun wz => hfin.out _ _ _ wz PBc hz1 (fun k hk => IB_own hk hz2 szb (by have := PB9.out.sz; omega)))
                   obtain ⟨d0, d1, g0, g1, m0, m1, -, -, -⟩ := PBc
                   clear hz1 hz2 hz3))
            all_goals (rename_i hh; clear hh; (have hst9 := Lib.hid (hst.out _ rfl)); clear hst; generalize World.setCell (World.setCell wc _ _) _ _ = wz at *; clear d0 d1 g0 g1 m0 m1 hA2 hLA hLB hLC; go_wp2_with fail; all_goals go_roundw)
            all_goals first
              | exact ⟨i + 1, _, _, _, _, by omega, by go_num, hst9.out⟩
              | (simp [intOf]; omega)
          · have hd := decide_eq_false hge
            go_wp2_with (first
              | (go_at_call 64; ((with_reducible refine hS1.mono ?_)); rintro en wa ⟨rfl, hB1⟩; (have hS3 := hS2.out _ hB1.t); (have hB := Lib.hid hB1); obtain ⟨d0, d1, g0, g1, m0, m1, -, hsz2, hsl⟩ := hB1)
              | (go_at_call 64; ((with_reducible refine hS3.mono ?_)); rintro en wc ⟨rfl, rfl⟩))
            set_option exponentiation.threshold 100000 in obtain ⟨hb1, hb2⟩ := mul_pow_bound hval.out hm0 (hUi.out ▸ hU.out i hin)
            obtain ⟨hb3, hb4⟩ := mul_pow_bound hrel.out.val hx0 (psum_lt hn hU.out (Nat.le_of_lt hin))
            have hl1 := hlo.out
            have hl2 := hrel.out.lo
            have hw1 : IntKind.i64.wrap (E - ei) = E - ei := IntWalk.i64_in _ (by omega)
            have hw2 : IntKind.u64.wrap (E - ei) = E - ei := by rw [IntKind.wrap_u64]; omega
            obtain ⟨sh, hsh⟩ : ∃ sh : Nat, E - ei = (sh : Int) := ⟨(E - ei).toNat, by omega⟩
            have hsl9 : sh ≤ 39010 := by omega
            have hbv : bl (x * 2 ^ sh).natAbs ≤ 6000000 := bl_shift (by omega) hsl9
            have hL : ∀ W z, Turn (fun _ => False) wr W → It W z none 0 → wr.heap.size < z → Calls Tryz.prog 124 #[.pointer (some ⟨z, 0, none⟩), .pointer (some ⟨q, 0, none⟩), .int .u64 (E - ei)] W (IRes W z none (x * 2 ^ sh)) := fun W z t h hz => by
              rw [hsh]
              refine Lsh_any z none 0 q oq x sh W h (hrel.out.it.still t) (.inr fun k hk g => ?_) (by omega) (by omega) (fun _ => rfl)
              have := IB_none hk
              have := hrel.out.it.lt g
              omega
            have hA := Lib.hid (show ∀ W z y oy, Turn (fun _ => False) wr W → It W z none 0 → It W y oy (x * 2 ^ sh) → Calls Tryz.prog 134 #[.pointer (some ⟨z, 0, none⟩), .pointer (some ⟨pi, 0, none⟩), .pointer (some ⟨y, 0, none⟩)] W (IRes W z none (mi + x * 2 ^ sh)) from fun W z y oy t h1 h2 =>
              Add_any z none 0 pi oi mi y oy _ W h1 (hIm.out.still t) h2 (by omega) hbv)
            have hve : psum U i + U i = (mi + x * 2 ^ sh) * 2 ^ (ei + K).toNat := by
              rw [hrel.out.val, hUi.out, hval.out]
              have := add_same (x := mi) (m := x) (a := (ei + K).toNat) (b := (E + K).toNat) (by omega)
              rw [show (E + K).toNat - (ei + K).toNat = sh by omega] at this
              rw [Int.add_comm]; exact this
            have hfin := Lib.hid (show ∀ wc z oz wz, PB wr wc (w.heap.size + 1 + 1) q pi E ei → It wc z oz (mi + x * 2 ^ sh) → (∀ k, IB z oz k → w.heap.size + 1 + 1 ≤ k ∧ k ≠ w.heap.size + 1 + 1) → wz = ((wc.setCell ⟨w.heap.size + 1 + 1, 0, none⟩ (.pointer (some ⟨z, 0, none⟩))).setCell ⟨w.heap.size + 1 + 1, 1, none⟩ (.int .i64 ei)) → PRel w2 (w.heap.size + 1 + 1) K U (i + 1) wz z oz (mi + x * 2 ^ sh) ei from fun wc z oz wz hP h1 h2 => hrel.out.put hP.t h1 (fun k hk => by have := h2 k hk; omega) hP.d0 hP.d1 hlo.out hhi.out hve)
            have nsz := size_alloc wa (.cells #[.bool false, .slice none 0 0] 128)
            have ta := (Turn.refl (fun _ => False) wa).alloc (.cells #[.bool false, .slice none 0 0] 128)
            have P0 : PB wr wa.drew (w.heap.size + 1 + 1) q pi E ei := hB.out.more (Turn.refl (fun _ => False) wa).drew (fun k g => g.elim)
            have P1 := hB.out.more ta.drew (fun k g => g.elim)
            have P2 := hB.out.more (ta.alloc (.cells #[.bool false, .slice none 0 0] 128)).drew (fun k g => g.elim)
            have i1 := (It.made wa).drew
            have i2 := (It.made (wa.alloc (.cells #[.bool false, .slice none 0 0] 128))).drew
            have i3 := ((It.made wa).still ((Turn.refl (fun _ => False) _).alloc (.cells #[.bool false, .slice none 0 0] 128))).drew
            rw [nsz] at i2
            have hsz0 := hB.out.sz
            have hLA := hL _ _ P2.t i2 (by omega)
            have hLB := hL _ _ P2.t i3 (by omega)
            have hLC := hL _ _ P1.t i1 (by omega)
            obtain ⟨d0, d1, g0, g1, m0, m1, -, -, -⟩ := P0
            obtain ⟨e0, e1, h0', h1', n0, n1, -, -, -⟩ := P1
            obtain ⟨a0, a1, x0', x1', y0', y1', -, -, -⟩ := P2
            have P1 := Lib.hid (hB.out.more ta.drew (fun k g => g.elim))
            have P2 := Lib.hid (hB.out.more (ta.alloc (.cells #[.bool false, .slice none 0 0] 128)).drew (fun k g => g.elim))
            have iA := Lib.hid i3
            have iB := Lib.hid i2
            have hsl9 := hsl
            clear i1 i2 i3 hL ta nsz hB hb1 hb2 hb3 hb4 hl1 hl2 hbv hve hsh z1 z2 hd
            rw [show Op.load 95 (Operand.tmp 18) = lk (Op.load 95 (Operand.tmp 18)) from rfl, show Op.load 3 (Operand.tmp 20) = lk (Op.load 3 (Operand.tmp 20)) from rfl]
            go_region_held3 (fun wx => wx.cell? ⟨wr.heap.size, 0, none⟩ = some (.pointer (some ⟨pi, 0, none⟩)) ∧ wx.cell? ⟨wr.heap.size, 1, none⟩ = some (.int .i64 ei))
              (first | (refine ⟨?_, ?_⟩ <;> with_reducible assumption) | (refine ⟨?_, ?_⟩ <;> (with_reducible refine cell_two ?_ (by assumption); dsimp only; omega)))
              (first
                | (go_at_call 124; ((with_reducible refine hLA.mono ?_)); rintro en wb ⟨rfl, oy, iy, ow, h3⟩
                   have tw := P2.out.t.trans h3 (fun k hk g => by (have := IB_none g; omega))
                   have iz := iA.out.turn h3 (fun k hk g => by (have := IB_none hk; have := IB_none g; omega))
                   have PB9 := P2.out.more h3 (fun k g => by (have := IB_none g; omega))
                   obtain ⟨d0, d1, g0, g1, m0, m1, -, -, -⟩ := PB9
                   have PB9 := Lib.hid (P2.out.more h3 (fun k g => by (have := IB_none g; omega)))
                   have hA2 := hA.out _ _ _ _ tw iz iy
                   have szb : w.heap.size + 1 + 1 < wa.heap.size := by omega
                   clear ow h3 iy iz tw)
                | (go_at_call 124; ((with_reducible refine hLB.mono ?_)); rintro en wb ⟨rfl, oy, iy, ow, h3⟩
                   have tw := P2.out.t.trans h3 (fun k hk g => by (have := IB_none g; omega))
                   have iz := iB.out.turn h3 (fun k hk g => by (have := IB_none hk; have := IB_none g; omega))
                   have PB9 := P2.out.more h3 (fun k g => by (have := IB_none g; omega))
                   obtain ⟨d0, d1, g0, g1, m0, m1, -, -, -⟩ := PB9
                   have PB9 := Lib.hid (P2.out.more h3 (fun k g => by (have := IB_none g; omega)))
                   have hA2 := hA.out _ _ _ _ tw iz iy
                   have szb : w.heap.size + 1 + 1 < wa.heap.size + 1 := by omega
                   clear ow h3 iy iz tw)
                | (go_at_call 124; ((with_reducible refine hLC.mono ?_)); rintro en wb ⟨rfl, oy, iy, ow, h3⟩
                   have tw := P1.out.t.trans h3 (fun k hk g => by (have := IB_none g; omega))
                   have szc := Nat.lt_of_lt_of_le P1.out.sz h3.size
                   have PB8 := P1.out.more h3 (fun k g => by (have := IB_none g; omega))
                   have ta := (Turn.refl (fun _ => False) wb).alloc (.cells #[.bool false, .slice none 0 0] 128)
                   have PB7 := PB8.more ta (fun k g => g.elim)
                   have hA2 := hA.out _ _ _ _ (tw.trans' ta) (It.made wb) (iy.still ta)
                   have PB9 := Lib.hid PB7
                   obtain ⟨d0, d1, g0, g1, m0, m1, -, -, -⟩ := PB8
                   obtain ⟨b0, b1, p0, p1, n0, n1, -, -, -⟩ := PB7
                   have szb : w.heap.size + 1 + 1 < wb.heap.size := by omega
                   clear ow h3 iy tw ta)
                | (go_at_call 134; ((with_reducible refine hA2.mono ?_)); rintro en wc ⟨rfl, oz, hz1, hz2, hz3⟩
                   have PBc := PB9.out.more hz3 (fun k g => by (have := IB_none g; omega))
                   have hst := Lib.hid (fun wz => hfin.out _ _ _ wz PBc hz1 (fun k hk => IB_own hk hz2 szb (by have := PB9.out.sz; omega)))
                   obtain ⟨d0, d1, g0, g1, m0, m1, -, -, -⟩ := PBc
                   clear hz1 hz2 hz3))
            all_goals (rename_i hh; clear hh; (have hst9 := Lib.hid (hst.out _ rfl)); clear hst; generalize World.setCell (World.setCell wc _ _) _ _ = wz at *; clear d0 d1 g0 g1 m0 m1 hA2 hLA hLB hLC; go_wp2_with fail; all_goals go_roundw)
            all_goals first
              | exact ⟨i + 1, _, _, _, _, by omega, by go_num, hst9.out⟩
              | (simp [intOf]; omega)
    · obtain rfl : i = n := by omega
      have s0 := hrel.s0
      have s1 := hrel.s1
      have hl : w.heap.size < w2.heap.size := by rw [hsz.out]; omega
      have hne9 : ¬ w.heap.size = w.heap.size + 1 + 1 := by omega
      have c0 := (hrel.turn.cell (p := ⟨w.heap.size, 0, none⟩) hl hne9).trans r0.out
      have c1 := (hrel.turn.cell (p := ⟨w.heap.size, 1, none⟩) hl hne9).trans r1.out
      have f0 := (hrel.turn.frozen (p := ⟨w.heap.size, 0, none⟩) hl hne9).trans q0.out
      have f1 := (hrel.turn.frozen (p := ⟨w.heap.size, 1, none⟩) hl hne9).trans q1.out
      replace hrel := Lib.hid hrel
      go_wp2_with fail
      obtain ⟨z0, z1⟩ := set2 (.pointer (some ⟨q, 0, none⟩)) (.int .i64 E) c0 c1
      have hT : Turn (fun k => k = w.heap.size) wr ((wr.setCell ⟨w.heap.size, 0, none⟩ (.pointer (some ⟨q, 0, none⟩))).setCell ⟨w.heap.size, 1, none⟩ (.int .i64 E)) :=
        ((Turn.refl (fun k => k = w.heap.size) wr).setCell (p := ⟨w.heap.size, 0, none⟩) (fun _ => rfl) _).setCell (p := ⟨w.heap.size, 1, none⟩) (fun _ => rfl) _
      generalize ((wr.setCell ⟨w.heap.size, 0, none⟩ (.pointer (some ⟨q, 0, none⟩))).setCell ⟨w.heap.size, 1, none⟩ (.int .i64 E)) = wz at *
      refine bodyPost_ret (v := .agg #[.pointer (some ⟨q, 0, none⟩), .int .i64 E]) (by simp [results, Tryz.results94, go_sem, z0, z1]) rfl ?_
      refine ⟨q, oq, x, E, rfl, hrel.out.it.turn hT (fun k hk e => by have := (hrel.out.away k hk).2; omega), hrel.out.lo, hrel.out.hi, hrel.out.val, ?_⟩
      exact (t0.out.trans hrel.out.turn fun k hk g => by omega).trans hT fun k hk g => by omega
end
end Go.Proofs.YtllapbkoildfiaaGreatFmt
