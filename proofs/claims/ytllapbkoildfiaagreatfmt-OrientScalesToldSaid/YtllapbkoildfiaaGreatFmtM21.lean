/- dyadic.open: the walk · dyadic.plus: what is added up, and how far. -/
import Derived.Test.YtllapbkoildfiaaGreatFmtM20
set_option linter.all false
namespace Go.Proofs.YtllapbkoildfiaaGreatFmt
section
open Go.RowKit
theorem cell_zerosE (w : World) (c i : Nat) (hi : i < c * 2) : ∃ u, (w.alloc (zerosE c)).cell? ⟨w.heap.size, i, none⟩ = some u ∧ (w.alloc (zerosE c)).frozen? ⟨w.heap.size, i, none⟩ = false := by
  refine ⟨if i % 2 = 0 then .pointer none else .int .i64 0, ?_, frozen_made _ _ _ _⟩
  unfold zerosE
  rw [cell_made, Array.getElem?_ofFn, dif_pos hi]
def OpenRes (w : World) (n K : Nat) (U : Nat → Int) (en : Ending) (w' : World) : Prop := ∃ b p o m e, en = .returned (.slice (some ⟨b, 0, none⟩) n n) ∧ w.heap.size ≤ b ∧ b < w'.heap.size ∧ Exs w w' b n K U p o m e ∧ Turn (fun _ => False) w w'
structure ORel (w w1 : World) (n K : Nat) (U : Nat → Int) (i : Nat) (wr : World) : Prop where
  ex : ∃ p o m e, Exs w wr w.heap.size i K U p o m e
  rw : Rw w.heap.size 0 (i * 2) w1 wr
theorem NumK.get {w : World} {s : Bool} {a : Option Addr} {k c : Nat} {E : Int} {K : Nat} {U : Int} (h : NumK w (.agg #[.bool s, .slice a k c, .int .i64 E]) K U) :
    ∃ d, Ds w a k d ∧ k ≤ 2000 ∧ -(K : Int) ≤ E ∧ U = (if s then -((dv d k : Nat) : Int) else ((dv d k : Nat) : Int)) * 2 ^ (E + K).toNat ∧ E ≤ 1048576 ∧ bl (if s then -((dv d k : Nat) : Int) else ((dv d k : Nat) : Int)).natAbs ≤ 60000 := by
  obtain ⟨M, E', ⟨neg, a', n', c', d, e, h⟩, h2, h3⟩ := h
  injection e with e
  have e' := congrArg Array.toList e
  simp only [List.cons.injEq, Value.bool.injEq, Value.slice.injEq, Value.int.injEq, and_true, true_and] at e'
  obtain ⟨rfl, ⟨rfl, rfl, rfl⟩, rfl⟩ := e'
  have hv := h.val
  have hM : (if s then -((dv d k : Nat) : Int) else ((dv d k : Nat) : Int)) = M := by
    rw [hv, h.sgn]
    by_cases g : M < 0
    · rw [if_pos (decide_eq_true g)]; omega
    · rw [if_neg (by simpa using g)]; omega
  refine ⟨d, h.ds, h.le, h2, by rw [hM]; exact h3, h.exp2, ?_⟩
  rw [hM, ← hv]
  set_option exponentiation.threshold 100000 in refine bl_le (Nat.lt_of_lt_of_le (m := 2 ^ (30 * k)) ?_ (Nat.pow_le_pow_right (by omega) (by have := h.le; omega)))
  have hlt : ∀ i, i < k → d i < 1073741824 := by
    rcases h.ds with g | ⟨b, o, _, g⟩
    · intro i hi; omega
    · exact fun i hi => (g i hi).2
  have := top_lt (d := d) (n := k) hlt k (Nat.le_refl _)
  rw [top_all] at this
  exact this
theorem NumK.old {S : Nat → Prop} {w w' : World} {v : Value} {K : Nat} {U : Int} (h : NumK w v K U) (t : Turn S w w') (hs : ∀ k, k < w.heap.size → ¬ S k) : NumK w' v K U := by
  obtain ⟨M, E, ⟨neg, a, n, c, d, e, h⟩, h2, h3⟩ := h
  refine ⟨M, E, ⟨neg, a, n, c, d, e, ?_⟩, h2, h3⟩
  refine ⟨h.sgn, ?_, h.le, h.val, h.hi, h.lo, h.exp1, h.exp2, h.zero⟩
  rcases h.ds with g | ⟨k, o, g1, g2⟩
  · exact .inl g
  · rcases Nat.eq_zero_or_pos n with g | g
    · exact .inl g
    · exact .inr ⟨k, o, g1, g2.turn t (hs k (g2.lt g))⟩
theorem Rw.ofStill {b lo hi : Nat} {w w' : World} (t : Turn (fun _ => False) w w') (hb : b < w.heap.size) : Rw b lo hi w w' :=
  ⟨t.mono fun _ _ h => h.elim, fun j _ => t.cell (p := ⟨b, j, none⟩) hb id, fun j => t.frozen (p := ⟨b, j, none⟩) hb id, fun h => h.still t⟩
theorem cell_two' {wa : World} {b o1 o2 : Nat} {v0 v1 v : Value} {p : Addr} (h : p.block ≠ b) (hc : wa.cell? p = some v) : ((wa.setCell ⟨b, o1, none⟩ v0).setCell ⟨b, o2, none⟩ v1).cell? p = some v :=
  ((((Turn.refl (fun k => k = b) wa).setCell (p := ⟨b, o1, none⟩) (fun _ => rfl) v0).setCell (p := ⟨b, o2, none⟩) (fun _ => rfl) v1).cell (World.block_lt_of_cell? wa _ hc) h).trans hc
theorem set2' {w : World} {b o1 o2 : Nat} {u0 u1 : Value} (h : o1 ≠ o2) (v0 v1 : Value) (r0 : w.cell? ⟨b, o1, none⟩ = some u0) (r1 : w.cell? ⟨b, o2, none⟩ = some u1) :
    ((w.setCell ⟨b, o1, none⟩ v0).setCell ⟨b, o2, none⟩ v1).cell? ⟨b, o1, none⟩ = some v0 ∧ ((w.setCell ⟨b, o1, none⟩ v0).setCell ⟨b, o2, none⟩ v1).cell? ⟨b, o2, none⟩ = some v1 := by
  refine ⟨?_, ?_⟩
  · rw [World.cell?_setCell_other _ _ _ _ (fun e => h (congrArg Addr.off e).symm)]
    exact World.cell?_setCell_same _ _ _ r0
  · exact World.cell?_setCell_same _ _ _ ((World.cell?_setCell_other _ _ _ _ (fun e => h (congrArg Addr.off e))).trans r1)
theorem ORel.more {w w1 wr wd wa wz : World} {n K i q : Nat} {U : Nat → Int} {oq : Option (Nat × Nat)} {x E : Int} {u0 u1 : Value} (h : ORel w w1 n K U i wr) (hs : w.heap.size < wr.heap.size) (t : Turn (fun _ => False) wr wd) (hI : It wa q oq x) (hN : New wd q oq) (g : Turn (fun _ => False) wd wa)
    (z0 : wa.cell? ⟨w.heap.size, i * 2, none⟩ = some u0) (z1 : wa.cell? ⟨w.heap.size, i * 2 + 1, none⟩ = some u1) (hlo : -(K : Int) ≤ E) (hv : U i = x * 2 ^ (E + K).toNat) (hh : E ≤ 1048576 ∧ bl x.natAbs ≤ 60000)
    (e : wz = ((wa.setCell ⟨w.heap.size, i * 2, none⟩ (.pointer (some ⟨q, 0, none⟩))).setCell ⟨w.heap.size, i * 2 + 1, none⟩ (.int .i64 E))) : ORel w w1 n K U (i + 1) wz := by
  subst e
  obtain ⟨⟨p, o, m, e, hE⟩, hR⟩ := h
  have hwr : Rw w.heap.size (i * 2) (i * 2 + 2) wr ((wa.setCell ⟨w.heap.size, i * 2, none⟩ (.pointer (some ⟨q, 0, none⟩))).setCell ⟨w.heap.size, i * 2 + 1, none⟩ (.int .i64 E)) :=
    ((Rw.ofStill (t.trans' g) hs).set (by omega) (by omega) _).set (by omega) (by omega) _
  obtain ⟨r0, r1⟩ := set2' (show i * 2 ≠ i * 2 + 1 by omega) (.pointer (some ⟨q, 0, none⟩)) (.int .i64 E) z0 z1
  have hw : ∀ k, IB q oq k → wr.heap.size ≤ k := fun k hk => Nat.le_trans t.size (hN k hk)
  have hT : Turn (fun k => k = w.heap.size) wa ((wa.setCell ⟨w.heap.size, i * 2, none⟩ (.pointer (some ⟨q, 0, none⟩))).setCell ⟨w.heap.size, i * 2 + 1, none⟩ (.int .i64 E)) :=
    ((Turn.refl (fun k => k = w.heap.size) wa).setCell (p := ⟨w.heap.size, i * 2, none⟩) (fun _ => rfl) _).setCell (p := ⟨w.heap.size, i * 2 + 1, none⟩) (fun _ => rfl) _
  refine ⟨⟨_, _, _, _, hE.more hwr.turn (fun c hc => hwr.out c (by omega)) r0 r1 (hI.turn hT fun k hk e => by have := hw k hk; omega) hw (Nat.le_of_lt hs) hs hlo hv hh⟩, ?_⟩
  exact (hR.mono (Nat.le_refl _) (by omega)).trans (hwr.mono (by omega) (by omega))
theorem valid_k (v : Value) (K : Nat) (U : Int) (w : World) (h : NumK w v K U) : Calls Tryz.prog 84 #[v] w fun e w' => e = .returned (.bool true) ∧ ∃ o, w' = w.alloc o := by
  obtain ⟨M, E, h1, -⟩ := h
  exact valid_true v M E w h1
set_option maxRecDepth 100000 in
set_option maxHeartbeats 4000000 in
theorem open_any (lb lo n c K : Nat) (a : Option Addr) (U : Nat → Int) (w : World) (hn : n ≤ 1000000) (ha : n = 0 ∨ a = some ⟨lb, lo, none⟩) (hd : Nms w lb lo n K U) :
    Calls Tryz.prog 63 #[.slice a n c] w (OpenRes w n K U) := by
  have hmk := run_make_ex n hn
  have t0 := (Turn.refl (fun _ => False) w).alloc (zerosE n)
  have hz := fun i hi => cell_zerosE w n i hi
  have hsz := size_alloc w (zerosE n)
  have h0 : ORel w (w.alloc (zerosE n)) n K U 0 (w.alloc (zerosE n)) := ⟨⟨fun _ => 0, fun _ => none, fun _ => 0, fun _ => 0, ⟨(fun _ h => absurd h (by omega)), (fun _ h => absurd h (by omega)), (fun _ h => absurd h (by omega)), (fun _ h => absurd h (by omega)), (fun _ h => absurd h (by omega)), (fun _ h => absurd h (by omega)), (fun _ h => absurd h (by omega)), (fun _ _ _ h => absurd h (by omega))⟩⟩, Rw.refl _ _ _ _⟩
  replace t0 := Lib.hid t0
  replace hz := Lib.hid hz
  replace hsz := Lib.hid hsz
  replace h0 := Lib.hid h0
  replace hd := Lib.hid hd
  replace ha := Lib.hid ha
  go_enter Tryz.func63, Tryz.ntmps63
  go_wp2_with fail
  generalize w.alloc (zerosE n) = w1 at *
  go_loopw [11] (fun vi wr => ∃ k : Nat, k ≤ n ∧ vi = .int .i64 k ∧ ORel w w1 n K U k wr) (fun vi _ => n - (intOf vi).toNat)
  case atStart => exact ⟨0, Nat.zero_le _, rfl, h0.out⟩
  case round =>
    obtain ⟨i, hi, rfl, hrel⟩ := hrel
    by_cases hin : i < n
    · have hlb := hd.out.lt (by omega)
      obtain ⟨⟨p, o, m, e, hE⟩, hR⟩ := hrel
      have tb : Turn (fun k => k = w.heap.size) w wr := (t0.out.mono fun _ _ h => h.elim).trans' hR.turn
      have ha1 := ha.out.resolve_left (by omega)
      subst ha1
      obtain ⟨s, a, k, cc, E, q0, q1, q2, hK⟩ := hd.out i hin
      have hne : ¬ lb = w.heap.size := by omega
      have c0 := (tb.cell (p := ⟨lb, lo + i * 3, none⟩) hlb hne).trans q0
      have c1 := (tb.cell (p := ⟨lb, lo + i * 3 + 1, none⟩) hlb hne).trans q1
      have c2 := (tb.cell (p := ⟨lb, lo + i * 3 + 2, none⟩) hlb hne).trans q2
      have hK1 : NumK wr (.agg #[.bool s, .slice a k cc, .int .i64 E]) K (U i) := hK.old tb fun k hk => by omega
      have hn1 : (0 : Int) ≤ (i : Int) := by omega
      have hn2 : (i : Int) < n := by omega
      have t1 := (Turn.refl (fun _ => False) wr).alloc (.cells #[.bool s, .slice a k cc, .int .i64 E] 53)
      have hV := valid_k _ K (U i) _ (hK1.still t1)
      have m0 := cell_made #[.bool s, .slice a k cc, .int .i64 E] 53 wr 0
      have m1 := cell_made #[.bool s, .slice a k cc, .int .i64 E] 53 wr 1
      have m2 := cell_made #[.bool s, .slice a k cc, .int .i64 E] 53 wr 2
      have hl1 : wr.heap.size < (wr.alloc (.cells #[.bool s, .slice a k cc, .int .i64 E] 53)).heap.size := by rw [size_alloc]; omega
      clear q0 q1 q2 hne
      replace hK := Lib.hid hK
      replace hE := Lib.hid hE
      replace hR := Lib.hid hR
      replace tb := Lib.hid tb
      replace hK1 := Lib.hid hK1
      replace t1 := Lib.hid t1
      replace hl1 := Lib.hid hl1
      clear ha
      go_wp2_with (go_at_call 84; ((with_reducible refine hV.mono ?_)); rintro en wa ⟨rfl, ob, rfl⟩)
      have t2 := ((Turn.refl (fun _ => False) (wr.alloc (.cells #[.bool s, .slice a k cc, .int .i64 E] 53))).alloc ob).drew
      have d0 := (t2.cell (p := ⟨wr.heap.size, 0, none⟩) hl1.out id).trans m0
      have d1 := (t2.cell (p := ⟨wr.heap.size, 1, none⟩) hl1.out id).trans m1
      have d2 := (t2.cell (p := ⟨wr.heap.size, 2, none⟩) hl1.out id).trans m2
      have hl2 := Nat.lt_of_lt_of_le hl1.out t2.size
      have t3 := t1.out.trans' t2
      obtain ⟨d, hDs, hk2, hlo, hval, hE2, hbl⟩ := (hK1.out.still t3).get
      have hW := whole_any s a k cc d _ hDs hk2
      have hwb : w.heap.size < wr.heap.size := by have := hR.out.turn.size; have := hsz.out; omega
      obtain ⟨u0, z0, y0⟩ := hz.out (i * 2) (by omega)
      obtain ⟨u1, z1, y1⟩ := hz.out (i * 2 + 1) (by omega)
      replace z0 := (hR.out.out (i * 2) (by omega)).trans z0
      replace z1 := (hR.out.out (i * 2 + 1) (by omega)).trans z1
      replace y0 := (hR.out.frz (i * 2)).trans y0
      replace y1 := (hR.out.frz (i * 2 + 1)).trans y1
      replace z0 := (t3.cell (p := ⟨w.heap.size, i * 2, none⟩) hwb id).trans z0
      replace z1 := (t3.cell (p := ⟨w.heap.size, i * 2 + 1, none⟩) hwb id).trans z1
      replace y0 := (t3.frozen (p := ⟨w.heap.size, i * 2, none⟩) hwb id).trans y0
      replace y1 := (t3.frozen (p := ⟨w.heap.size, i * 2 + 1, none⟩) hwb id).trans y1
      generalize (if s then -((dv d k : Nat) : Int) else ((dv d k : Nat) : Int)) = x at *
      generalize hWW : ((wr.alloc (.cells #[.bool s, .slice a k cc, .int .i64 E] 53)).alloc ob) = W2 at *
      replace t3 := Lib.hid t3
      clear t2 hDs
      have hl3 : w.heap.size < W2.drew.heap.size := by omega
      replace d0 : W2.drew.cell? _ = some (.bool s) := d0
      replace d1 : W2.drew.cell? _ = some (.slice a k cc) := d1
      replace d2 : W2.drew.cell? _ = some (.int .i64 E) := d2
      have hrel := Lib.hid (show ORel w w1 n K U i wr from ⟨⟨p, o, m, e, hE.out⟩, hR.out⟩)
      replace hbl := Lib.hid hbl
      replace hval := Lib.hid hval
      replace hlo := Lib.hid hlo
      replace hE2 := Lib.hid hE2
      clear hE hR hV m0 m1 m2 c0 c1 c2 hK1 hK hWW
      go_region_held3 (fun wx => wx.cell? ⟨wr.heap.size, 0, none⟩ = some (.bool s) ∧ wx.cell? ⟨wr.heap.size, 1, none⟩ = some (.slice a k cc) ∧ wx.cell? ⟨wr.heap.size, 2, none⟩ = some (.int .i64 E))
        (first | (refine ⟨?_, ?_, ?_⟩ <;> assumption) | (refine ⟨?_, ?_, ?_⟩ <;> (refine cell_two' ?_ (by assumption); dsimp only; omega)))
        (first | (go_at_call 85; ((with_reducible refine hW.mono ?_)); rintro en wa ⟨q, oq, rfl, g1, g2, g3⟩
                  have e0 := (g3.cell (p := ⟨wr.heap.size, 0, none⟩) hl2 id).trans d0
                  have e1 := (g3.cell (p := ⟨wr.heap.size, 1, none⟩) hl2 id).trans d1
                  have e2 := (g3.cell (p := ⟨wr.heap.size, 2, none⟩) hl2 id).trans d2
                  have x0 := (g3.cell (p := ⟨w.heap.size, i * 2, none⟩) hl3 id).trans z0
                  have x1 := (g3.cell (p := ⟨w.heap.size, i * 2 + 1, none⟩) hl3 id).trans z1
                  have v0 := (g3.frozen (p := ⟨w.heap.size, i * 2, none⟩) hl3 id).trans y0
                  have v1 := (g3.frozen (p := ⟨w.heap.size, i * 2 + 1, none⟩) hl3 id).trans y1
                  have hfin := Lib.hid (fun wz => hrel.out.more (wz := wz) hwb t3.out g1 g2 g3 x0 x1 hlo.out hval.out ⟨hE2.out, hbl.out⟩)
                  clear g1 g2 g3 z0 z1 y0 y1 d0 d1 d2))
      rename_i hh
      clear hh
      have hst := hfin.out _ rfl
      generalize ((wa.setCell ⟨w.heap.size, i * 2, none⟩ (.pointer (some ⟨q, 0, none⟩))).setCell ⟨w.heap.size, i * 2 + 1, none⟩ (.int .i64 E)) = wz at *
      replace hst := Lib.hid hst
      clear x0 x1 v0 v1 e0 e1 e2 hfin hW
      go_wp2_with fail
      all_goals go_roundw
      case rel => exact ⟨i + 1, by omega, by go_num, hst.out⟩
      case measure => simp [intOf]; omega
    · obtain rfl : i = n := by omega
      have hlt : w.heap.size < wr.heap.size := by have := hrel.rw.turn.size; have := hsz.out; omega
      obtain ⟨⟨p, o, m, e, hE⟩, hR⟩ := hrel
      have tb : Turn (fun _ => False) w wr := t0.out.trans hR.turn fun k hk e => by
        have : k = w.heap.size := e
        omega
      replace hE := Lib.hid hE
      replace tb := Lib.hid tb
      clear hR
      go_wp2_with fail
      go_ret
      exact ⟨_, p, o, m, e, rfl, Nat.le_refl _, hlt, hE.out, tb.out⟩
end
section
open Go.RowKit
def psum (U : Nat → Int) : Nat → Int
  | 0 => 0
  | i + 1 => psum U i + U i
theorem psum_bound {U : Nat → Int} {B n : Nat} (h : ∀ j, j < n → (U j).natAbs ≤ B) : ∀ i, i ≤ n → (psum U i).natAbs ≤ i * B
  | 0, _ => by simp [psum]
  | i + 1, hi => by
    have a := psum_bound h i (by omega)
    have b := h i (by omega)
    have : (psum U (i + 1)).natAbs ≤ (psum U i).natAbs + (U i).natAbs := by show (psum U i + U i).natAbs ≤ _; omega
    rw [Nat.succ_mul]
    omega
theorem mul_pow_bound {z x : Int} {a N : Nat} (h : z = x * 2 ^ a) (hx : x ≠ 0) (hz : z.natAbs < 2 ^ N) : a < N ∧ bl x.natAbs ≤ N := by
  have e : z.natAbs = x.natAbs * 2 ^ a := by rw [h, Int.natAbs_mul, Int.natAbs_pow]; rfl
  have hp := Nat.two_pow_pos a
  have h1 : 1 * 2 ^ a ≤ x.natAbs * 2 ^ a := Nat.mul_le_mul_right _ (by omega)
  have h2 : x.natAbs * 1 ≤ x.natAbs * 2 ^ a := Nat.mul_le_mul_left _ hp
  refine ⟨(Nat.pow_lt_pow_iff_right (a := 2) (by omega)).1 (by omega), bl_le (by omega)⟩
theorem add_same {x m : Int} {a b : Nat} (hab : a ≤ b) : x * 2 ^ a + m * 2 ^ b = (x + m * 2 ^ (b - a)) * 2 ^ a := by
  rw [Int.add_mul, Int.mul_assoc, ← Int.pow_add, Nat.sub_add_cancel hab]
theorem Exs.old {S : Nat → Prop} {w0 w w' : World} {b n K : Nat} {U : Nat → Int} {p : Nat → Nat} {o : Nat → Option (Nat × Nat)} {m e : Nat → Int} (h : Exs w0 w b n K U p o m e) (t : Turn S w w') (hs : ∀ k, k < w.heap.size → ¬ S k) : Exs w0 w' b n K U p o m e :=
  ⟨fun j hj => (t.cell (p := ⟨b, _, none⟩) (World.block_lt_of_cell? w _ (h.c0 j hj)) (hs _ (World.block_lt_of_cell? w _ (h.c0 j hj)))).trans (h.c0 j hj),
   fun j hj => (t.cell (p := ⟨b, _, none⟩) (World.block_lt_of_cell? w _ (h.c1 j hj)) (hs _ (World.block_lt_of_cell? w _ (h.c1 j hj)))).trans (h.c1 j hj),
   fun j hj => (h.it j hj).turn t fun k hk => hs k ((h.it j hj).lt hk), h.lo, h.val, h.hi, h.new, h.dis⟩
structure PRel (w2 : World) (sb K : Nat) (U : Nat → Int) (i : Nat) (wr : World) (q : Nat) (oq : Option (Nat × Nat)) (x E : Int) : Prop where
  s0 : wr.cell? ⟨sb, 0, none⟩ = some (.pointer (some ⟨q, 0, none⟩))
  s1 : wr.cell? ⟨sb, 1, none⟩ = some (.int .i64 E)
  f0 : wr.frozen? ⟨sb, 0, none⟩ = false
  f1 : wr.frozen? ⟨sb, 1, none⟩ = false
  it : It wr q oq x
  away : ∀ k, IB q oq k → k ≠ sb ∧ k + 2 ≠ sb
  lo : -(K : Int) ≤ E
  hi : E ≤ 1048576
  val : psum U i = x * 2 ^ (E + K).toNat
  turn : Turn (fun k => k = sb) w2 wr
theorem PRel.skip {w2 wr wz : World} {sb K i q : Nat} {U : Nat → Int} {oq : Option (Nat × Nat)} {x E : Int} (h : PRel w2 sb K U i wr q oq x E) (t : Turn (fun _ => False) wr wz) (h0 : U i = 0) : PRel w2 sb K U (i + 1) wz q oq x E := by
  have hl := World.block_lt_of_cell? wr _ h.s0
  exact ⟨(t.cell (p := ⟨sb, 0, none⟩) hl id).trans h.s0, (t.cell (p := ⟨sb, 1, none⟩) hl id).trans h.s1, (t.frozen (p := ⟨sb, 0, none⟩) hl id).trans h.f0, (t.frozen (p := ⟨sb, 1, none⟩) hl id).trans h.f1,
    h.it.still t, h.away, h.lo, h.hi, by show psum U i + U i = _; rw [h0, Int.add_zero]; exact h.val, h.turn.trans' (t.mono fun _ _ g => g.elim)⟩
theorem PRel.put {w2 wr wa wz : World} {sb K i q q2 : Nat} {U : Nat → Int} {oq oq2 : Option (Nat × Nat)} {x E x2 E2 : Int} {u0 u1 : Value} (h : PRel w2 sb K U i wr q oq x E) (t : Turn (fun _ => False) wr wa) (hI : It wa q2 oq2 x2) (ha : ∀ k, IB q2 oq2 k → k ≠ sb ∧ k + 2 ≠ sb)
    (r0 : wa.cell? ⟨sb, 0, none⟩ = some u0) (r1 : wa.cell? ⟨sb, 1, none⟩ = some u1)
    (lo : -(K : Int) ≤ E2) (hi : E2 ≤ 1048576) (hv : psum U i + U i = x2 * 2 ^ (E2 + K).toNat) (e : wz = ((wa.setCell ⟨sb, 0, none⟩ (.pointer (some ⟨q2, 0, none⟩))).setCell ⟨sb, 1, none⟩ (.int .i64 E2))) : PRel w2 sb K U (i + 1) wz q2 oq2 x2 E2 := by
  subst e
  have hl := World.block_lt_of_cell? wr _ h.s0
  obtain ⟨c0, c1⟩ := set2 (.pointer (some ⟨q2, 0, none⟩)) (.int .i64 E2) r0 r1
  have hT : Turn (fun k => k = sb) wa ((wa.setCell ⟨sb, 0, none⟩ (.pointer (some ⟨q2, 0, none⟩))).setCell ⟨sb, 1, none⟩ (.int .i64 E2)) :=
    ((Turn.refl (fun k => k = sb) wa).setCell (p := ⟨sb, 0, none⟩) (fun _ => rfl) _).setCell (p := ⟨sb, 1, none⟩) (fun _ => rfl) _
  refine ⟨c0, c1, ?_, ?_, hI.turn hT (fun k hk => (ha k hk).1), ha, lo, hi, hv, (h.turn.trans' (t.mono fun _ _ g => g.elim)).trans' hT⟩
  · rw [World.frozen?_setCell, World.frozen?_setCell]; exact (t.frozen (p := ⟨sb, 0, none⟩) hl id).trans h.f0
  · rw [World.frozen?_setCell, World.frozen?_setCell]; exact (t.frozen (p := ⟨sb, 1, none⟩) hl id).trans h.f1
structure PB (wr W : World) (sb q pi : Nat) (E ei : Int) : Prop where
  d0 : W.cell? ⟨sb, 0, none⟩ = some (.pointer (some ⟨q, 0, none⟩))
  d1 : W.cell? ⟨sb, 1, none⟩ = some (.int .i64 E)
  g0 : W.frozen? ⟨sb, 0, none⟩ = false
  g1 : W.frozen? ⟨sb, 1, none⟩ = false
  m0 : W.cell? ⟨wr.heap.size, 0, none⟩ = some (.pointer (some ⟨pi, 0, none⟩))
  m1 : W.cell? ⟨wr.heap.size, 1, none⟩ = some (.int .i64 ei)
  t : Turn (fun _ => False) wr W
  sz : wr.heap.size < W.heap.size
  sl : sb < wr.heap.size
theorem PB.more {wr W W' : World} {sb q pi : Nat} {E ei : Int} (h : PB wr W sb q pi E ei) {S : Nat → Prop} (t : Turn S W W') (hS : ∀ k, S k → wr.heap.size < k) : PB wr W' sb q pi E ei := by
  have hl := h.sz
  have hs := h.sl
  have n0 : ¬ S sb := fun g => by have := hS _ g; omega
  have n1 : ¬ S wr.heap.size := fun g => by have := hS _ g; omega
  have l0 : sb < W.heap.size := by omega
  exact ⟨(t.cell (p := ⟨sb, 0, none⟩) l0 n0).trans h.d0, (t.cell (p := ⟨sb, 1, none⟩) l0 n0).trans h.d1, (t.frozen (p := ⟨sb, 0, none⟩) l0 n0).trans h.g0, (t.frozen (p := ⟨sb, 1, none⟩) l0 n0).trans h.g1,
    (t.cell (p := ⟨wr.heap.size, 0, none⟩) hl n1).trans h.m0, (t.cell (p := ⟨wr.heap.size, 1, none⟩) hl n1).trans h.m1, h.t.trans t (fun k hk g => by have := hS _ g; omega), Nat.lt_of_lt_of_le hl t.size, hs⟩
def PRes (w : World) (K : Nat) (V : Int) (en : Ending) (w' : World) : Prop := ∃ q oq x E, en = .returned (.agg #[.pointer (some ⟨q, 0, none⟩), .int .i64 E]) ∧ It w' q oq x ∧ -(K : Int) ≤ E ∧ E ≤ 1048576 ∧ V = x * 2 ^ (E + K).toNat ∧ Turn (fun _ => False) w w'
end
end Go.Proofs.YtllapbkoildfiaaGreatFmt
