/- dyadic.times · Walks of the small functions on one float: package bits, and math's Abs, Inf, IsInf, IsNaN · The order of words, infinite ones too; walks of math's Abs, Inf, IsInf, IsNaN, Nextafter, and of package bits' Canon, Next, Prev · Walks of math's IsInf, Nextafter, and of package bits' Canon, Next, Prev; orient.SignOf, round.signed, big's makeAcc. -/
import Derived.Test.YtllapbkoildfiaaGreatFmtM18
import Derived.Deep.RegionLaw
import Derived.Deep.RegionHeld3
import Derived.Test.YtllapbkoildfiaaGreatFmtM03
import Derived.Laws.FloatArith
import Derived.Handy
set_option linter.all false
namespace Go.Proofs.YtllapbkoildfiaaGreatFmt
section
open Go.RowKit
def ExRes (w : World) (m e : Int) (en : Ending) (w' : World) : Prop := ∃ q oq, en = .returned (.agg #[.pointer (some ⟨q, 0, none⟩), .int .i64 e]) ∧ It w' q oq m ∧ New w q oq ∧ Turn (fun _ => False) w w'
structure TX (w wx : World) (p q : Nat) (e f : Int) : Prop where
  x0 : wx.cell? ⟨w.heap.size, 0, none⟩ = some (.pointer (some ⟨p, 0, none⟩))
  x1 : wx.cell? ⟨w.heap.size, 1, none⟩ = some (.int .i64 e)
  y0 : wx.cell? ⟨w.heap.size + 1, 0, none⟩ = some (.pointer (some ⟨q, 0, none⟩))
  y1 : wx.cell? ⟨w.heap.size + 1, 1, none⟩ = some (.int .i64 f)
  r0 : wx.cell? ⟨w.heap.size + 1 + 1, 0, none⟩ = some (.pointer none)
  r1 : wx.cell? ⟨w.heap.size + 1 + 1, 1, none⟩ = some (.int .i64 0)
  f0 : wx.frozen? ⟨w.heap.size + 1 + 1, 0, none⟩ = false
  f1 : wx.frozen? ⟨w.heap.size + 1 + 1, 1, none⟩ = false
  turn : Turn (fun _ => False) w wx
  sz : w.heap.size + 1 + 1 < wx.heap.size
theorem TX.more {w wx wy : World} {p q : Nat} {e f : Int} (h : TX w wx p q e f) {S : Nat → Prop} (t : Turn S wx wy) (hS : ∀ k, S k → w.heap.size + 1 + 1 < k) : TX w wy p q e f := by
  have hl := h.sz
  have n0 : ¬ S w.heap.size := fun g => by have := hS _ g; omega
  have n1 : ¬ S (w.heap.size + 1) := fun g => by have := hS _ g; omega
  have n2 : ¬ S (w.heap.size + 1 + 1) := fun g => by have := hS _ g; omega
  have l0 : w.heap.size < wx.heap.size := by omega
  have l1 : w.heap.size + 1 < wx.heap.size := by omega
  exact ⟨(t.cell (p := ⟨w.heap.size, 0, none⟩) l0 n0).trans h.x0, (t.cell (p := ⟨w.heap.size, 1, none⟩) l0 n0).trans h.x1,
    (t.cell (p := ⟨w.heap.size + 1, 0, none⟩) l1 n1).trans h.y0, (t.cell (p := ⟨w.heap.size + 1, 1, none⟩) l1 n1).trans h.y1,
    (t.cell (p := ⟨w.heap.size + 1 + 1, 0, none⟩) hl n2).trans h.r0, (t.cell (p := ⟨w.heap.size + 1 + 1, 1, none⟩) hl n2).trans h.r1,
    (t.frozen (p := ⟨w.heap.size + 1 + 1, 0, none⟩) hl n2).trans h.f0, (t.frozen (p := ⟨w.heap.size + 1 + 1, 1, none⟩) hl n2).trans h.f1,
    h.turn.trans t fun k hk g => by (have := hS k g; omega), Nat.lt_of_lt_of_le hl t.size⟩
theorem TX.drewN {w wx : World} {p q : Nat} {e f : Int} (h : TX w wx p q e f) (n : Nat) : TX w (wx.drewN n) p q e f := ⟨h.x0, h.x1, h.y0, h.y1, h.r0, h.r1, h.f0, h.f1, h.turn.drewN n, h.sz⟩
theorem TX.made (w : World) (p q : Nat) (e f : Int) : TX w (((w.alloc (.cells #[.pointer (some ⟨p, 0, none⟩), .int .i64 e] 97)).alloc (.cells #[.pointer (some ⟨q, 0, none⟩), .int .i64 f] 97)).alloc (.cells #[.pointer none, .int .i64 0] 97)) p q e f ∧
    (((w.alloc (.cells #[.pointer (some ⟨p, 0, none⟩), .int .i64 e] 97)).alloc (.cells #[.pointer (some ⟨q, 0, none⟩), .int .i64 f] 97)).alloc (.cells #[.pointer none, .int .i64 0] 97)).heap.size = w.heap.size + 1 + 1 + 1 := by
  have c1 := fun i => cell_made #[.pointer (some ⟨p, 0, none⟩), .int .i64 e] 97 w i
  have s1 := size_alloc w (.cells #[.pointer (some ⟨p, 0, none⟩), .int .i64 e] 97)
  have t1 := (Turn.refl (fun _ => False) w).alloc (.cells #[.pointer (some ⟨p, 0, none⟩), .int .i64 e] 97)
  generalize w.alloc (.cells #[.pointer (some ⟨p, 0, none⟩), .int .i64 e] 97) = w1 at *
  have c2 := fun i => cell_made #[.pointer (some ⟨q, 0, none⟩), .int .i64 f] 97 w1 i
  have s2 := size_alloc w1 (.cells #[.pointer (some ⟨q, 0, none⟩), .int .i64 f] 97)
  have t2 := (Turn.refl (fun _ => False) w1).alloc (.cells #[.pointer (some ⟨q, 0, none⟩), .int .i64 f] 97)
  generalize w1.alloc (.cells #[.pointer (some ⟨q, 0, none⟩), .int .i64 f] 97) = w2 at *
  have c3 := fun i => cell_made #[.pointer none, .int .i64 0] 97 w2 i
  have g3 := fun i => frozen_made #[.pointer none, .int .i64 0] 97 w2 i
  have s3 := size_alloc w2 (.cells #[.pointer none, .int .i64 0] 97)
  have t3 := (Turn.refl (fun _ => False) w2).alloc (.cells #[.pointer none, .int .i64 0] 97)
  generalize w2.alloc (.cells #[.pointer none, .int .i64 0] 97) = w3 at *
  rw [s1] at c2 s2
  rw [s2] at c3 g3 s3
  have l1 : w.heap.size < w1.heap.size := by omega
  have l2 : w.heap.size < w2.heap.size := by omega
  have l3 : w.heap.size + 1 < w2.heap.size := by omega
  refine ⟨⟨?_, ?_, ?_, ?_, c3 0, c3 1, g3 0, g3 1, (t1.trans' t2).trans' t3, by omega⟩, s3⟩
  · exact (t3.cell (p := ⟨w.heap.size, 0, none⟩) l2 id).trans ((t2.cell (p := ⟨w.heap.size, 0, none⟩) l1 id).trans (c1 0))
  · exact (t3.cell (p := ⟨w.heap.size, 1, none⟩) l2 id).trans ((t2.cell (p := ⟨w.heap.size, 1, none⟩) l1 id).trans (c1 1))
  · exact (t3.cell (p := ⟨w.heap.size + 1, 0, none⟩) l3 id).trans (c2 0)
  · exact (t3.cell (p := ⟨w.heap.size + 1, 1, none⟩) l3 id).trans (c2 1)
theorem cell_two {wa : World} {b : Nat} {v0 v1 v : Value} {p : Addr} (h : p.block ≠ b) (hc : wa.cell? p = some v) : ((wa.setCell ⟨b, 0, none⟩ v0).setCell ⟨b, 1, none⟩ v1).cell? p = some v :=
  ((((Turn.refl (fun k => k = b) wa).setCell (p := ⟨b, 0, none⟩) (fun _ => rfl) v0).setCell (p := ⟨b, 1, none⟩) (fun _ => rfl) v1).cell (World.block_lt_of_cell? wa _ hc) h).trans hc
theorem set2 {w : World} {b : Nat} {u0 u1 : Value} (v0 v1 : Value) (r0 : w.cell? ⟨b, 0, none⟩ = some u0) (r1 : w.cell? ⟨b, 1, none⟩ = some u1) :
    ((w.setCell ⟨b, 0, none⟩ v0).setCell ⟨b, 1, none⟩ v1).cell? ⟨b, 0, none⟩ = some v0 ∧ ((w.setCell ⟨b, 0, none⟩ v0).setCell ⟨b, 1, none⟩ v1).cell? ⟨b, 1, none⟩ = some v1 := by
  refine ⟨?_, ?_⟩
  · rw [World.cell?_setCell_other _ _ _ _ (by intro e; simp at e)]
    exact World.cell?_setCell_same _ _ _ r0
  · exact World.cell?_setCell_same _ _ _ ((World.cell?_setCell_other _ _ _ _ (by intro e; simp at e)).trans r1)
theorem TX.done {w W2 wa wz : World} {p q : Nat} {e f E z : Int} {o : Option (Nat × Nat)} (F2 : TX w W2 p q e f) (G : TX w wa p q e f) (h1 : It wa (w.heap.size + 1 + 1 + 1) o z) (h2 : Own W2 none o) (hT : Turn (fun k => k = w.heap.size + 1 + 1) wa wz) :
    ExRes w z E (.returned (.agg #[.pointer (some ⟨w.heap.size + 1 + 1 + 1, 0, none⟩), .int .i64 E])) wz := by
  have hb : ∀ k, IB (w.heap.size + 1 + 1 + 1) o k → w.heap.size + 1 + 1 < k := fun k hk => by
    rcases hk with rfl | ⟨c, rfl⟩
    · omega
    · rcases h2 k c rfl with ⟨d, g⟩ | g
      · cases g
      · exact Nat.lt_of_lt_of_le F2.sz g
  exact ⟨_, o, rfl, h1.turn hT (fun k hk g => by have := hb k hk; omega), fun k hk => by have := hb k hk; omega, G.turn.trans hT fun k hk g => by omega⟩
def TS (w wx : World) (p q : Nat) (e f : Int) : Prop :=
  wx.cell? ⟨w.heap.size, 0, none⟩ = some (.pointer (some ⟨p, 0, none⟩)) ∧ wx.cell? ⟨w.heap.size, 1, none⟩ = some (.int .i64 e) ∧ wx.cell? ⟨w.heap.size + 1, 0, none⟩ = some (.pointer (some ⟨q, 0, none⟩)) ∧ wx.cell? ⟨w.heap.size + 1, 1, none⟩ = some (.int .i64 f) ∧
  wx.cell? ⟨w.heap.size + 1 + 1, 0, none⟩ = some (.pointer none) ∧ wx.cell? ⟨w.heap.size + 1 + 1, 1, none⟩ = some (.int .i64 0) ∧ wx.frozen? ⟨w.heap.size + 1 + 1, 0, none⟩ = false ∧ wx.frozen? ⟨w.heap.size + 1 + 1, 1, none⟩ = false ∧ Turn (fun _ => False) w wx ∧ w.heap.size + 1 + 1 < wx.heap.size
theorem TX.limbs {w wx : World} {p q : Nat} {e f : Int} (h : TX w wx p q e f) : TS w wx p q e f := ⟨h.x0, h.x1, h.y0, h.y1, h.r0, h.r1, h.f0, h.f1, h.turn, h.sz⟩
theorem TS.all {w wx : World} {p q : Nat} {e f : Int} (h : TS w wx p q e f) : TX w wx p q e f := by
  obtain ⟨a, b, c, d, e, f, g, h, i, j⟩ := h
  exact ⟨a, b, c, d, e, f, g, h, i, j⟩
set_option maxRecDepth 100000 in
set_option maxHeartbeats 4000000 in
theorem times_any (p q : Nat) (op oq : Option (Nat × Nat)) (m n e f : Int) (w : World) (hI : It w p op m) (hJ : It w q oq n) (hpq : p ≠ q) (h40 : bl m.natAbs ≤ 2496 ∨ bl n.natAbs ≤ 2496) (hbm : bl m.natAbs ≤ 6000000) (hbn : bl n.natAbs ≤ 6000000) (hk : w.cell? ⟨5, 0, none⟩ = some (.int .i64 40)) (he : -100000000 ≤ e ∧ e ≤ 100000000) (hf : -100000000 ≤ f ∧ f ≤ 100000000) :
    Calls Tryz.prog 95 #[.agg #[.pointer (some ⟨p, 0, none⟩), .int .i64 e], .agg #[.pointer (some ⟨q, 0, none⟩), .int .i64 f]] w (ExRes w (m * n) (e + f)) := by
  have hw : IntKind.i64.wrap (e + f) = e + f := IntWalk.i64_in _ (by omega)
  have hA : ∀ W z, Turn (fun _ => False) w W → It W z none 0 → w.heap.size ≤ z → Calls Tryz.prog 135 #[.pointer (some ⟨z, 0, none⟩), .pointer (some ⟨p, 0, none⟩), .pointer (some ⟨q, 0, none⟩)] W (IRes W z none (m * n)) := fun W z t h hz =>
    Mul_new z p op m q oq n W h (hI.still t) (hJ.still t) (by have := hI.pl.lt; omega) (by have := hJ.pl.lt; omega) hpq h40 hbm hbn ((t.cell (p := ⟨5, 0, none⟩) (World.block_lt_of_cell? w _ hk) id).trans hk)
  clear hI hJ h40 hbm hbn hk hpq he hf
  go_enter Tryz.func95, Tryz.ntmps95
  go_wp2_with fail
  obtain ⟨F, hs⟩ := TX.made w p q e f
  generalize World.alloc (World.alloc (World.alloc w _) _) _ = w3 at F hs ⊢
  have F1 := F.drewN 1
  have F2 := F.more (((Turn.refl (fun _ => False) w3).alloc (.cells #[.bool false, .slice none 0 0] 128)).drew) (fun _ g => g.elim)
  have hz := (It.made w3).drew
  have hs2 : w3.heap.size = w.heap.size + 1 + 1 + 1 := hs
  have a0 : w3.drew.cell? _ = _ := F1.x0
  have a1 : w3.drew.cell? _ = _ := F1.x1
  have a2 : w3.drew.cell? _ = _ := F1.y0
  have a3 : w3.drew.cell? _ = _ := F1.y1
  have b0 := F2.x0
  have b1 := F2.x1
  have b2 := F2.y0
  have b3 := F2.y1
  have hB := hA _ _ F2.turn hz (by omega)
  rw [hs2] at hB
  replace F2 := Lib.hid F2
  clear F F1 hz hA
  go_region_held3 (fun wx => wx.cell? ⟨w.heap.size, 0, none⟩ = some (.pointer (some ⟨p, 0, none⟩)) ∧ wx.cell? ⟨w.heap.size, 1, none⟩ = some (.int .i64 e) ∧ wx.cell? ⟨w.heap.size + 1, 0, none⟩ = some (.pointer (some ⟨q, 0, none⟩)) ∧ wx.cell? ⟨w.heap.size + 1, 1, none⟩ = some (.int .i64 f))
    (first | (refine ⟨?_, ?_, ?_, ?_⟩ <;> assumption) | (refine ⟨?_, ?_, ?_, ?_⟩ <;> (refine cell_two ?_ (by assumption); dsimp only; omega)))
    (first | (go_at_call 135; ((with_reducible refine hB.mono ?_)); rintro en wa ⟨rfl, o, h1, h2, h3⟩
              have G := F2.out.more h3 (fun k g => by (have := IB_none g; omega))
              have c0 := G.x0
              have c1 := G.x1
              have c2 := G.y0
              have c3 := G.y1
              have r0 := G.r0
              have r1 := G.r1
              have f0 := G.f0
              have f1 := G.f1
              replace G := Lib.hid G
              replace h1 := Lib.hid h1
              replace h2 := Lib.hid h2
              clear h3))
  have hq := set2 (.pointer (some ⟨w.heap.size + 1 + 1 + 1, 0, none⟩)) (.int .i64 (e + f)) r0 r1
  have hT : Turn (fun k => k = w.heap.size + 1 + 1) wa ((wa.setCell ⟨w.heap.size + 1 + 1, 0, none⟩ (.pointer (some ⟨w.heap.size + 1 + 1 + 1, 0, none⟩))).setCell ⟨w.heap.size + 1 + 1, 1, none⟩ (.int .i64 (e + f))) :=
    ((Turn.refl (fun k => k = w.heap.size + 1 + 1) wa).setCell (p := ⟨w.heap.size + 1 + 1, 0, none⟩) (fun _ => rfl) _).setCell (p := ⟨w.heap.size + 1 + 1, 1, none⟩) (fun _ => rfl) _
  rename_i hh
  clear hh
  generalize ((wa.setCell ⟨w.heap.size + 1 + 1, 0, none⟩ (.pointer (some ⟨w.heap.size + 1 + 1 + 1, 0, none⟩))).setCell ⟨w.heap.size + 1 + 1, 1, none⟩ (.int .i64 (e + f))) = wz at *
  obtain ⟨q0, q1⟩ := hq
  replace hT := Lib.hid hT
  go_wp2_with fail
  refine bodyPost_ret (v := .agg #[.pointer (some ⟨w.heap.size + 1 + 1 + 1, 0, none⟩), .int .i64 (e + f)]) (by simp [results, Tryz.results95, go_sem, q0, q1]) rfl ?_
  exact TX.done F2.out G.out h1.out h2.out hT.out
end
section
open Go.RowKit
theorem from_bits (n : Int) (w : World) : (callFunc 44 #[.int .u64 n]).run Tryz.prog w = .ok (.value (.float .f64 n.toNat)) w := by
  rw [run_callFunc_extern Tryz.func44 (by kernel_rfl) (by kernel_rfl) (by kernel_rfl) (e := Extern.MathFloatBits.float64frombits) (by kernel_rfl)]
  rfl
theorem to_bits (n : Nat) (w : World) : (callFunc 45 #[.float .f64 n]).run Tryz.prog w = .ok (.value (.int .u64 n)) w := by
  rw [run_callFunc_extern Tryz.func45 (by kernel_rfl) (by kernel_rfl) (by kernel_rfl) (e := Extern.MathFloatBits.float64bits) (by kernel_rfl)]
  rfl
theorem Float_any (n : Nat) (w : World) (h : n < 18446744073709551616) : Calls Tryz.prog 61 #[.int .i64 (iw n)] w fun e w' => e = .returned (.float .f64 n) ∧ w = w' := by
  have fb := from_bits
  have e := wrap_iw h
  go_enter Tryz.func61, Tryz.ntmps61
  go_wp2
  go_ret
  exact ⟨rfl, rfl⟩
theorem Value_any (n : Nat) (w : World) (h : n < 18446744073709551616) : Calls Tryz.prog 25 #[.int .i64 (iw n)] w fun e w' => e = .returned (.float .f64 n) ∧ w = w' := by
  have fb := from_bits
  have e := wrap_iw h
  go_enter Tryz.func25, Tryz.ntmps25
  go_wp2
  go_ret
  exact ⟨rfl, rfl⟩
theorem pattern_any (n : Nat) (w : World) (h : n < 18446744073709551616) : Calls Tryz.prog 46 #[.float .f64 n] w fun e w' => e = .returned (.int .i64 (iw n)) ∧ w = w' := by
  have fb := to_bits
  have e := iw_wrap h
  go_enter Tryz.func46, Tryz.ntmps46
  go_wp2
  go_ret
  exact ⟨rfl, rfl⟩
def NN (n : Nat) : Prop := n < 18446744073709551616 ∧ n % 9223372036854775808 ≤ 9218868437227405312
theorem Fin64.nn {n : Nat} (h : Fin64 n) : NN n := ⟨h.1, by have := h.2; omega⟩
theorem read_inf {n : Nat} (h : n % 9223372036854775808 = 9218868437227405312) : Ieee.double.read n = .infinity (n / 9223372036854775808 % 2 == 1) := by
  unfold Ieee.Format.read
  simp only [signWeight_eq, binade_eq, infRung_eq]
  rw [if_neg (by omega), if_neg (by omega), if_pos h]
theorem order_self {n : Nat} (h : NN n) : FloatKind.f64.format.order n n = some .eq := by
  by_cases g : n % 9223372036854775808 = 9218868437227405312
  · show Ieee.double.order n n = _
    unfold Ieee.Format.order
    rw [read_inf g]
    simp [Ieee.Datum.order]
  · have hf : Fin64 n := ⟨h.1, by have := h.2; omega⟩
    show Ieee.double.order n n = _
    rw [order_word hf hf]
    simp [compare, compareOfLessAndEq]
theorem bOf_any (n : Nat) (w : World) (h : NN n) : Calls Tryz.prog 59 #[.float .f64 n] w fun e w' => e = .returned (.int .i64 (iw n)) ∧ w = w' := by
  have fb := to_bits
  have e := iw_wrap h.1
  have o : (FloatKind.f64.format.order n n != some .eq) = false := by rw [order_self h]; rfl
  clear h
  go_enter Tryz.func59, Tryz.ntmps59
  go_wp2
  go_ret
  exact ⟨rfl, rfl⟩
theorem classed_any (f t : Nat) (w : World) : Calls Tryz.prog 83 #[.int .i64 (f : Int), .int .i64 (t : Int), .int .i64 2047] w fun e w' => e = .returned (.int .i64 (if f = 2047 then (if t = 0 then 3 else 4) else if f = 0 then (if t = 0 then 0 else 1) else 2)) ∧ w = w' := by
  by_cases h1 : f = 2047
  · subst h1
    by_cases h2 : t = 0
    · subst h2
      go_enter Tryz.func83, Tryz.ntmps83
      go_wp2
      go_ret
      exact ⟨rfl, rfl⟩
    · rw [if_pos rfl, if_neg h2]
      have g : ((t : Int) == 0) = false := by rw [beq_eq_false_iff_ne]; omega
      have g2 : ((t : Int) != 0) = true := by rw [bne_iff_ne]; omega
      go_enter Tryz.func83, Tryz.ntmps83
      go_wp2
      go_ret
      exact ⟨rfl, rfl⟩
  · rw [if_neg h1]
    have f1 : ((f : Int) == 2047) = false := by rw [beq_eq_false_iff_ne]; omega
    by_cases h2 : f = 0
    · subst h2
      by_cases h3 : t = 0
      · subst h3
        go_enter Tryz.func83, Tryz.ntmps83
        go_wp2
        go_ret
        exact ⟨rfl, rfl⟩
      · rw [if_pos rfl, if_neg h3]
        have g : ((t : Int) == 0) = false := by rw [beq_eq_false_iff_ne]; omega
        go_enter Tryz.func83, Tryz.ntmps83
        go_wp2
        go_ret
        exact ⟨rfl, rfl⟩
    · rw [if_neg h2]
      have f2 : ((f : Int) == 0) = false := by rw [beq_eq_false_iff_ne]; omega
      go_enter Tryz.func83, Tryz.ntmps83
      go_wp2
      go_ret
      exact ⟨rfl, rfl⟩
theorem Class_any (n : Nat) (w : World) (h : n < 18446744073709551616) : Calls Tryz.prog 60 #[.int .i64 (iw n)] w fun e w' => e = .returned (.int .i64 (cls n)) ∧ w = w' := by
  have a := ef_iw h
  have b := ff_iw h
  have c : Calls Tryz.prog 83 #[.int .i64 (ef n : Int), .int .i64 (ff n : Int), .int .i64 2047] w fun e w' => e = .returned (.int .i64 (cls n)) ∧ w = w' := classed_any (ef n) (ff n) w
  go_enter Tryz.func60, Tryz.ntmps60
  go_wp2_with (go_at_call 83; refine c.mono ?_; rintro e w' ⟨rfl, rfl⟩)
  go_ret
  exact ⟨rfl, rfl⟩
theorem xor_top {n : Nat} (h : n < 18446744073709551616) : bits .xor .i64 (iw n) (-9223372036854775808) = iw (opp n) := by
  have e1 : (BitVec.ofInt 64 (iw n)) = BitVec.ofNat 64 n := by
    apply BitVec.eq_of_toNat_eq
    rw [BitVec.toNat_ofInt, BitVec.toNat_ofNat]
    unfold iw
    have : ((2 ^ 64 : Nat) : Int) = 18446744073709551616 := by decide
    rw [this]
    split <;> omega
  have e2 : (BitVec.ofInt 64 (-9223372036854775808)) = BitVec.twoPow 64 63 := by decide
  have e3 : (BitVec.ofNat 64 n ^^^ BitVec.twoPow 64 63).toNat = opp n := by
    rw [BitVec.toNat_xor, BitVec.toNat_ofNat, Nat.mod_eq_of_lt h, BitVec.toNat_twoPow]
    rw [show (2 ^ 63 % 2 ^ 64 : Nat) = 2 ^ 63 by decide]
    unfold opp
    by_cases g : n < 9223372036854775808
    · rw [if_pos g, Nat.add_comm]
      have := Nat.two_pow_add_eq_or_of_lt (i := 63) (b := n) g 1
      rw [Nat.mul_one] at this
      rw [show (9223372036854775808 : Nat) = 2 ^ 63 by decide, this]
      apply Nat.eq_of_testBit_eq
      intro i
      rw [Nat.testBit_xor, Nat.testBit_or, Nat.testBit_two_pow]
      by_cases hi : 63 = i
      · subst hi
        rw [Nat.testBit_lt_two_pow g]; rfl
      · simp [hi]
    · rw [if_neg g]
      obtain ⟨m, hm, rfl⟩ : ∃ m, m < 9223372036854775808 ∧ n = 9223372036854775808 + m := ⟨n - 9223372036854775808, by omega, by omega⟩
      rw [Nat.add_sub_cancel_left]
      have := Nat.two_pow_add_eq_or_of_lt (i := 63) (b := m) hm 1
      rw [Nat.mul_one] at this
      rw [show (9223372036854775808 : Nat) = 2 ^ 63 by decide, this]
      apply Nat.eq_of_testBit_eq
      intro i
      rw [Nat.testBit_xor, Nat.testBit_or, Nat.testBit_two_pow]
      by_cases hi : 63 = i
      · subst hi
        rw [Nat.testBit_lt_two_pow hm]; rfl
      · simp [hi]
  show IntKind.i64.wrap ((BitVec.ofInt 64 (iw n) ^^^ BitVec.ofInt 64 (-9223372036854775808)).toNat : Nat) = _
  rw [e1, e2, e3]
  exact iw_wrap (opp_lt h)
theorem Neg_word (n : Nat) (w : World) (h : NN n) : Calls Tryz.prog 73 #[.int .i64 (iw n)] w fun e w' => e = .returned (.int .i64 (iw (opp n))) ∧ w = w' := by
  have c := Class_any n w h.1
  have x := xor_top h.1
  have d : (cls n == 4) = false := by
    rw [beq_eq_false_iff_ne]
    have := h.2
    unfold cls ef ff
    split
    · split <;> omega
    · split
      · split <;> omega
      · omega
  clear h
  generalize cls n = k at *
  go_enter Tryz.func73, Tryz.ntmps73
  go_wp2_with (go_at_call 60; refine c.mono ?_; rintro e w' ⟨rfl, rfl⟩)
  go_ret
  exact ⟨rfl, rfl⟩
theorem neg_lt {n : Nat} (h : n < 18446744073709551616) : decide (iw n < 0) = decide (n / 9223372036854775808 % 2 = 1) := by
  have := iw_neg h
  by_cases g : iw n < 0
  · rw [decide_eq_true g, decide_eq_true (this.1 g)]
  · rw [decide_eq_false g, decide_eq_false fun k => g (this.2 k)]
def mant (n : Nat) : Nat := if ef n = 0 then ff n else ff n + 4503599627370496
def expo (n : Nat) : Int := if ef n = 0 then -1074 else (ef n : Int) - 1075
theorem or_52 {t : Nat} (h : t < 4503599627370496) : bits .or .i64 (t : Int) 4503599627370496 = ((t + 4503599627370496 : Nat) : Int) := by
  have e1 : (BitVec.ofInt 64 (t : Int)) = BitVec.ofNat 64 t := by simp
  have e2 : (BitVec.ofInt 64 4503599627370496) = BitVec.ofNat 64 (2 ^ 52) := by decide
  have e3 : (BitVec.ofNat 64 t ||| BitVec.ofNat 64 (2 ^ 52)).toNat = t + 4503599627370496 := by
    rw [BitVec.toNat_or, BitVec.toNat_ofNat, BitVec.toNat_ofNat, Nat.mod_eq_of_lt (by omega), Nat.mod_eq_of_lt (by decide), Nat.or_comm, Nat.add_comm]
    have := Nat.two_pow_add_eq_or_of_lt (i := 52) (b := t) h 1
    rw [Nat.mul_one] at this
    rw [← this]
  show IntKind.i64.wrap ((BitVec.ofInt 64 (t : Int) ||| BitVec.ofInt 64 4503599627370496).toNat : Nat) = _
  rw [e1, e2, e3, IntKind.wrap_i64]
  omega
theorem Parts_any (n : Nat) (w : World) (h : Fin64 n) : Calls Tryz.prog 96 #[.int .i64 (iw n)] w fun e w' => e = .returned (.tuple #[.bool (decide (fv n < 0 ∨ iw n < 0)), .int .i64 (mant n), .int .i64 (expo n), .bool true]) ∧ w = w' := by
  have a := ef_iw h.1
  have b := ff_iw h.1
  have d : decide (fv n < 0 ∨ iw n < 0) = decide (iw n < 0) := by
    have h1 := iw_neg h.1
    by_cases g : iw n < 0
    · rw [decide_eq_true g, decide_eq_true (.inr g)]
    · rw [decide_eq_false g, decide_eq_false]
      rintro (k | k)
      · exact g (h1.2 (fv_neg.1 k).1)
      · exact g k
  rw [d]
  have e1 := (Fin64.iff h.1).1 h
  have f1 : ((ef n : Int) == 2047) = false := by rw [beq_eq_false_iff_ne]; omega
  have o := or_52 (t := ff n) (Nat.mod_lt _ (by omega))
  unfold mant expo
  have hlt : ef n < 2048 := Nat.mod_lt _ (by omega)
  by_cases h2 : ef n = 0
  · rw [if_pos h2, if_pos h2]
    rw [h2] at a f1
    clear h o d e1 h2 hlt
    go_enter Tryz.func96, Tryz.ntmps96
    go_wp2
    go_returns
    exact ⟨rfl, rfl⟩
  · rw [if_neg h2, if_neg h2]
    have f2 : ((ef n : Int) == 0) = false := by rw [beq_eq_false_iff_ne]; omega
    have e2 : IntKind.i64.wrap ((ef n : Int) - 1075) = (ef n : Int) - 1075 := IntWalk.i64_in _ (by omega)
    clear h d e1 h2 hlt
    go_enter Tryz.func96, Tryz.ntmps96
    go_wp2
    go_returns
    exact ⟨rfl, rfl⟩
theorem fv_mant (n : Nat) (h : Fin64 n) : mg (n % 9223372036854775808) = mant n * 2 ^ (expo n + 1074).toNat := by
  have := h.2
  unfold mg mant expo ef ff
  by_cases g : n % 9223372036854775808 < 4503599627370496
  · rw [if_pos g, if_pos (by omega), if_pos (by omega)]
    simp
    omega
  · rw [if_neg g, if_neg (by omega), if_neg (by omega)]
    congr 1
    · omega
    · congr 1; omega
end
section
open Go.RowKit
def rk (n : Nat) : Int := if n / 9223372036854775808 % 2 = 1 then -((n % 9223372036854775808 : Nat) : Int) else ((n % 9223372036854775808 : Nat) : Int)
theorem fv_lt {x y : Nat} : fv x < fv y ↔ rk x < rk y := by
  have key : ∀ r s : Nat, mg r < mg s ↔ r < s := fun r s => by
    constructor
    · intro h
      rcases Nat.lt_or_ge r s with g | g
      · exact g
      · have := mg_le g; omega
    · exact mg_mono
  have a := key (x % 9223372036854775808) (y % 9223372036854775808)
  have b := key (y % 9223372036854775808) (x % 9223372036854775808)
  have c := @mg_zero (x % 9223372036854775808)
  have d := @mg_zero (y % 9223372036854775808)
  have z : mg 0 = 0 := mg_small (by omega)
  have e : x % 9223372036854775808 = 0 → mg (x % 9223372036854775808) = 0 := fun h => by rw [h]; exact z
  have f : y % 9223372036854775808 = 0 → mg (y % 9223372036854775808) = 0 := fun h => by rw [h]; exact z
  unfold fv rk
  generalize mg (x % 9223372036854775808) = u at *
  generalize mg (y % 9223372036854775808) = v at *
  split <;> split <;> omega
theorem compare_i (a b : Int) : compare a b = if a < b then .lt else if a = b then .eq else .gt := by
  simp only [compare, compareOfLessAndEq]
theorem rk_fin {n : Nat} (h : Fin64 n) : -9218868437227405312 < rk n ∧ rk n < 9218868437227405312 := by
  have := h.2
  unfold rk
  split <;> omega
theorem rk_inf {n : Nat} (h : n % 9223372036854775808 = 9218868437227405312) : rk n = if n / 9223372036854775808 % 2 = 1 then -9218868437227405312 else 9218868437227405312 := by
  unfold rk; rw [h]; rfl
theorem order_rk {x y : Nat} (hx : NN x) (hy : NN y) : FloatKind.f64.format.order x y = some (compare (rk x) (rk y)) := by
  show Ieee.double.order x y = _
  have sx : x / 9223372036854775808 % 2 = 0 ∨ x / 9223372036854775808 % 2 = 1 := by omega
  have sy : y / 9223372036854775808 % 2 = 0 ∨ y / 9223372036854775808 % 2 = 1 := by omega
  by_cases gx : x % 9223372036854775808 = 9218868437227405312
  · have rx := rk_inf gx
    by_cases gy : y % 9223372036854775808 = 9218868437227405312
    · have ry := rk_inf gy
      unfold Ieee.Format.order
      rw [read_inf gx, read_inf gy, rx, ry]
      rcases sx with e | e <;> rcases sy with f | f <;> rw [e, f] <;> rfl
    · have hf : Fin64 y := ⟨hy.1, by have := hy.2; omega⟩
      obtain ⟨m, i, ry, -, -⟩ := read_fin hf
      obtain ⟨b1, b2⟩ := rk_fin hf
      unfold Ieee.Format.order
      rw [read_inf gx, ry, compare_i]
      simp only [Ieee.Datum.order]
      rcases sx with e | e <;> rw [e] at rx ⊢
      · rw [if_neg (by decide)] at rx
        rw [if_neg (c := (0 == 1) = true) (by decide), if_neg (by omega), if_neg (by omega)]
      · rw [if_pos rfl] at rx
        rw [if_pos (c := (1 == 1) = true) (by decide), if_pos (by omega)]
  · have hf : Fin64 x := ⟨hx.1, by have := hx.2; omega⟩
    by_cases gy : y % 9223372036854775808 = 9218868437227405312
    · have ry := rk_inf gy
      obtain ⟨m, i, rx, -, -⟩ := read_fin hf
      obtain ⟨b1, b2⟩ := rk_fin hf
      unfold Ieee.Format.order
      rw [read_inf gy, rx, compare_i]
      simp only [Ieee.Datum.order]
      rcases sy with e | e <;> rw [e] at ry ⊢
      · rw [if_neg (by decide)] at ry
        rw [if_neg (c := (0 == 1) = true) (by decide), if_pos (by omega)]
      · rw [if_pos rfl] at ry
        rw [if_pos (c := (1 == 1) = true) (by decide), if_neg (by omega), if_neg (by omega)]
    · have hg : Fin64 y := ⟨hy.1, by have := hy.2; omega⟩
      rw [order_word hf hg]
      have a := @fv_lt x y
      have b := @fv_lt y x
      rw [compare_i, compare_i]
      congr 1
      by_cases c : rk x < rk y
      · rw [if_pos c, if_pos (a.2 c)]
      · rw [if_neg c, if_neg fun h => c (a.1 h)]
        by_cases d : rk y < rk x
        · have := b.2 d
          rw [if_neg (by omega), if_neg (by omega)]
        · have := fun h => c (a.1 h)
          have := fun h => d (b.1 h)
          rw [if_pos (by omega), if_pos (by omega)]
theorem beq_lt {x y : Nat} (hx : NN x) (hy : NN y) : (FloatKind.f64.format.order x y == some .lt) = decide (rk x < rk y) := by
  rw [order_rk hx hy, compare_i]
  by_cases c : rk x < rk y
  · rw [if_pos c, decide_eq_true c]; rfl
  · rw [if_neg c, decide_eq_false c]; split <;> rfl
theorem beq_gt {x y : Nat} (hx : NN x) (hy : NN y) : (FloatKind.f64.format.order x y == some .gt) = decide (rk y < rk x) := by
  rw [order_rk hx hy, compare_i]
  by_cases c : rk y < rk x
  · rw [if_neg (by omega), if_neg (by omega), decide_eq_true c]; rfl
  · rw [decide_eq_false c]
    by_cases d : rk x < rk y
    · rw [if_pos d]; rfl
    · rw [if_neg d, if_pos (by omega)]; rfl
theorem beq_eq {x y : Nat} (hx : NN x) (hy : NN y) : (FloatKind.f64.format.order x y == some .eq) = decide (rk x = rk y) := by
  rw [order_rk hx hy, compare_i]
  by_cases c : rk x = rk y
  · rw [if_neg (by omega), if_pos c, decide_eq_true c]; rfl
  · rw [decide_eq_false c]
    by_cases d : rk x < rk y
    · rw [if_pos d]; rfl
    · rw [if_neg d, if_neg c]; rfl
theorem bne_eq {x y : Nat} (hx : NN x) (hy : NN y) : (FloatKind.f64.format.order x y != some .eq) = !decide (rk x = rk y) := by
  rw [bne, beq_eq hx hy]
theorem rk_zero : rk 0 = 0 := by decide
theorem rk_opp {n : Nat} (h : n < 18446744073709551616) : rk (opp n) = -rk n := by
  unfold rk
  rw [opp_rung h, opp_sign h]
  split <;> split <;> omega
theorem NN.opp {n : Nat} (h : NN n) : NN (opp n) := ⟨opp_lt h.1, by rw [opp_rung h.1]; exact h.2⟩
theorem fAbs_any (n : Nat) (w : World) (h : n < 18446744073709551616) : Calls Tryz.prog 26 #[.float .f64 n] w fun e w' => e = .returned (.float .f64 (n % 9223372036854775808)) ∧ w = w' := by
  have fb := to_bits
  have fc := from_bits
  have e : bits .andNot .u64 (n : Int) 9223372036854775808 = ((n % 9223372036854775808 : Nat) : Int) := by
    have e : bits .andNot .u64 (n : Int) 9223372036854775808 = ((n &&& (18446744073709551615 - 9223372036854775808) : Nat) : Int) := u64_andNot_nat n 9223372036854775808 h (by omega)
    rw [e]
    have e2 : (18446744073709551615 - 9223372036854775808 : Nat) = 2 ^ 63 - 1 := by decide
    rw [e2, Nat.and_two_pow_sub_one_eq_mod]
  generalize n % 9223372036854775808 = m at *
  go_enter Tryz.func26, Tryz.ntmps26
  go_wp2
  go_ret
  exact ⟨rfl, rfl⟩
theorem IsNaN_no (n : Nat) (w : World) (h : NN n) : Calls Tryz.prog 177 #[.float .f64 n] w fun e w' => e = .returned (.bool false) ∧ w = w' := by
  have o : (FloatKind.f64.format.order n n != some .eq) = false := by rw [order_self h]; rfl
  clear h
  go_enter Tryz.func177, Tryz.ntmps177
  go_wp2
  go_ret
  exact ⟨rfl, rfl⟩
theorem Inf_pos (w : World) : Calls Tryz.prog 56 #[.int .i64 1] w fun e w' => e = .returned (.float .f64 9218868437227405312) ∧ w = w' := by
  have fc := from_bits
  go_enter Tryz.func56, Tryz.ntmps56
  go_wp2
  go_ret
  exact ⟨rfl, rfl⟩
theorem Inf_neg (w : World) : Calls Tryz.prog 56 #[.int .i64 (-1)] w fun e w' => e = .returned (.float .f64 18442240474082181120) ∧ w = w' := by
  have fc := from_bits
  go_enter Tryz.func56, Tryz.ntmps56
  go_wp2
  go_ret
  exact ⟨rfl, rfl⟩
end
section
open Go.RowKit
theorem max_nn : NN 9218868437227405311 := ⟨by omega, by omega⟩
theorem rk_max : rk 9218868437227405311 = 9218868437227405311 := by decide
theorem abs_nn {n : Nat} (h : NN n) : NN (n % 9223372036854775808) := ⟨by omega, by rw [Nat.mod_mod]; exact h.2⟩
theorem rk_abs {n : Nat} : rk (n % 9223372036854775808) = ((n % 9223372036854775808 : Nat) : Int) := by
  unfold rk
  rw [if_neg (by omega), Nat.mod_mod]
theorem IsInf_0 (n : Nat) (w : World) (h : NN n) : Calls Tryz.prog 115 #[.float .f64 n, .int .i64 0] w fun e w' => e = .returned (.bool (decide (n % 9223372036854775808 = 9218868437227405312))) ∧ w = w' := by
  have c := fAbs_any n w h.1
  have o := beq_gt (abs_nn h) max_nn
  rw [rk_max, rk_abs, show decide ((9218868437227405311 : Int) < ((n % 9223372036854775808 : Nat) : Int)) = decide (n % 9223372036854775808 = 9218868437227405312) from by
    have := h.2
    by_cases g : n % 9223372036854775808 = 9218868437227405312
    · rw [decide_eq_true g, decide_eq_true (by omega)]
    · rw [decide_eq_false g, decide_eq_false (by omega)]] at o
  clear h
  generalize decide (n % 9223372036854775808 = 9218868437227405312) = q at *
  generalize n % 9223372036854775808 = m at *
  go_enter Tryz.func115, Tryz.ntmps115
  go_wp2_with (go_at_call 26; refine c.mono ?_; rintro e w' ⟨rfl, rfl⟩)
  go_ret
  exact ⟨rfl, rfl⟩
theorem IsInf_pos (n : Nat) (w : World) (h : NN n) : Calls Tryz.prog 115 #[.float .f64 n, .int .i64 1] w fun e w' => e = .returned (.bool (decide (rk n = 9218868437227405312))) ∧ w = w' := by
  have o := beq_gt h max_nn
  rw [rk_max, show decide ((9218868437227405311 : Int) < rk n) = decide (rk n = 9218868437227405312) from by
    have := h.2
    have : rk n ≤ 9218868437227405312 := by unfold rk; split <;> omega
    by_cases g : rk n = 9218868437227405312
    · rw [decide_eq_true g, decide_eq_true (by omega)]
    · rw [decide_eq_false g, decide_eq_false (by omega)]] at o
  clear h
  generalize decide (rk n = 9218868437227405312) = q at *
  go_enter Tryz.func115, Tryz.ntmps115
  go_wp2
  go_ret
  exact ⟨rfl, rfl⟩
theorem rk_rev {n : Nat} (h : NN n) : rk (opp n) = -rk n := rk_opp h.1
theorem xor63 {n : Nat} (h : n < 18446744073709551616) : n ^^^ 2 ^ 63 = opp n := by
  have key : ∀ m : Nat, m < 2 ^ 63 → m ^^^ 2 ^ 63 = 2 ^ 63 + m := fun m hm => by
    have := Nat.two_pow_add_eq_or_of_lt (i := 63) (b := m) hm 1
    rw [Nat.mul_one] at this
    rw [this]
    apply Nat.eq_of_testBit_eq
    intro i
    rw [Nat.testBit_xor, Nat.testBit_or, Nat.testBit_two_pow]
    by_cases hi : 63 = i
    · subst hi
      rw [Nat.testBit_lt_two_pow hm]; rfl
    · simp [hi]
  unfold opp
  by_cases g : n < 9223372036854775808
  · rw [if_pos g, key n (by simpa using g), Nat.add_comm]
  · rw [if_neg g]
    obtain ⟨m, hm, rfl⟩ : ∃ m, m < 2 ^ 63 ∧ n = 2 ^ 63 + m := ⟨n - 9223372036854775808, by omega, by omega⟩
    rw [← key m hm, Nat.xor_assoc, Nat.xor_self, Nat.xor_zero, key m hm]
    omega
theorem run_neg {n : Nat} (h : n < 18446744073709551616) (w : World) : (Op.unary .neg (.float .f64 n)).run Tryz.prog w = .ok (.float .f64 (opp n)) w := by
  rw [← xor63 h]
  rfl
theorem IsInf_neg (n : Nat) (w : World) (h : NN n) : Calls Tryz.prog 115 #[.float .f64 n, .int .i64 (-1)] w fun e w' => e = .returned (.bool (decide (rk n = -9218868437227405312))) ∧ w = w' := by
  have o := beq_gt h.opp max_nn
  rw [rk_max, rk_rev h, show decide ((9218868437227405311 : Int) < -rk n) = decide (rk n = -9218868437227405312) from by
    have := h.2
    have : -9218868437227405312 ≤ rk n := by unfold rk; split <;> omega
    by_cases g : rk n = -9218868437227405312
    · rw [decide_eq_true g, decide_eq_true (by omega)]
    · rw [decide_eq_false g, decide_eq_false (by omega)]] at o
  have hn := run_neg h.1
  generalize decide (rk n = -9218868437227405312) = q at *
  clear h
  go_enter Tryz.func115, Tryz.ntmps115
  go_wp2
  go_ret
  exact ⟨rfl, rfl⟩
theorem SignOf_any (n : Nat) (w : World) (h : NN n) : Calls Tryz.prog 34 #[.float .f64 n] w fun e w' => e = .returned (.int .i64 (sgn (rk n))) ∧ w = w' := by
  have z : NN 0 := ⟨by omega, by omega⟩
  have o1 := beq_gt h z
  have o2 := beq_lt h z
  rw [rk_zero] at o1 o2
  unfold sgn
  by_cases g1 : 0 < rk n
  · rw [if_neg (by omega), if_neg (by omega)]
    rw [decide_eq_true g1] at o1
    clear g1 h z o2
    go_enter Tryz.func34, Tryz.ntmps34
    go_wp2
    go_ret
    exact ⟨rfl, rfl⟩
  · rw [decide_eq_false g1] at o1
    by_cases g2 : rk n < 0
    · rw [if_pos g2]
      rw [decide_eq_true g2] at o2
      clear g1 g2 h z
      go_enter Tryz.func34, Tryz.ntmps34
      go_wp2
      go_ret
      exact ⟨rfl, rfl⟩
    · rw [if_neg g2, if_pos (by omega)]
      rw [decide_eq_false g2] at o2
      clear g1 g2 h z
      go_enter Tryz.func34, Tryz.ntmps34
      go_wp2
      go_ret
      exact ⟨rfl, rfl⟩
theorem makeAcc_any (b : Bool) (w : World) : Calls Tryz.prog 174 #[.bool b] w fun e w' => e = .returned (.int .i8 (if b then 1 else -1)) ∧ w = w' := by
  cases b
  · go_enter Tryz.func174, Tryz.ntmps174
    go_wp2
    go_ret
    exact ⟨rfl, rfl⟩
  · go_enter Tryz.func174, Tryz.ntmps174
    go_wp2
    go_ret
    exact ⟨rfl, rfl⟩
def cn (n : Nat) : Nat := if n = 9223372036854775808 then 0 else n
theorem fv_cn (n : Nat) : fv (cn n) = fv n := by
  unfold cn
  split
  · rename_i h; subst h; decide
  · rfl
theorem rk_cn (n : Nat) : rk (cn n) = rk n := by
  unfold cn
  split
  · rename_i h; subst h; decide
  · rfl
theorem cn_nn {n : Nat} (h : NN n) : NN (cn n) := by
  unfold cn
  split
  · exact ⟨by omega, by omega⟩
  · exact h
end
end Go.Proofs.YtllapbkoildfiaaGreatFmt
