/- dyadic.Sum, Add · dyadic.Add · dyadic.Mul. -/
import Derived.Test.YtllapbkoildfiaaGreatFmtM22
set_option linter.all false
namespace Go.Proofs.YtllapbkoildfiaaGreatFmt
section
open Go.RowKit
theorem pwe {a b : Nat} (h : a ≤ b) : (2 : Nat) ^ a ≤ 2 ^ b := Nat.pow_le_pow_right (by omega) h
theorem lt_up {n a b : Nat} (h : n < 2 ^ a) (hab : a ≤ b) : n < 2 ^ b := Nat.lt_of_lt_of_le h (pwe hab)
theorem lt_mul_pw {A B a b c : Nat} (h : A < 2 ^ a) (h2 : B < 2 ^ b) (hc : a + b ≤ c) : A * B < 2 ^ c := Nat.lt_of_lt_of_le (Nat.mul_lt_mul'' h h2) (by rw [← Nat.pow_add]; exact pwe hc)
theorem neg_ltN {B : Int} {n : Nat} (h : B.natAbs < n) : (-B).natAbs < n := by rw [Int.natAbs_neg]; exact h
structure Rb (w : World) (b : Nat) : Prop where
  bx : Bx w b
  e0 : w.cell? ⟨b + 1, 0, none⟩ = some (.int .i64 0)
  ef : w.frozen? ⟨b + 1, 0, none⟩ = false
  er : ∀ i, 1 ≤ i → w.cell? ⟨b + 1, i, none⟩ = none
theorem Rb.still {w w' : World} {b : Nat} (h : Rb w b) (t : Turn (fun _ => False) w w') : Rb w' b := by
  have hl := World.block_lt_of_cell? w _ h.e0
  exact ⟨h.bx.still t, (t.cell (p := ⟨b + 1, 0, none⟩) hl id).trans h.e0, (t.frozen (p := ⟨b + 1, 0, none⟩) hl id).trans h.ef, fun i hi => (t.cell (p := ⟨b + 1, i, none⟩) hl id).trans (h.er i hi)⟩
theorem Rb.made (w : World) : Rb ((w.alloc (.cells #[.bool false, .slice none 0 0, .int .i64 0] 53)).alloc (.cells #[.int .i64 0] 30)) w.heap.size := by
  have hs := size_alloc w (.cells #[.bool false, .slice none 0 0, .int .i64 0] 53)
  refine ⟨(Bx.made 53 w).still ((Turn.refl (fun _ => False) _).alloc _), ?_, ?_, fun i hi => ?_⟩ <;> rw [← hs]
  · exact cell_made _ _ _ 0
  · exact frozen_made _ _ _ 0
  · rw [cell_made]
    exact Array.getElem?_eq_none (by simpa using hi)
theorem Rb.fin {w wb wz : World} {b K : Nat} {U : Int} {v : Value} (hn : NumK wb v K U) (t : Turn (fun _ => False) w wb) (h : Rb wb b) (hl : w.heap.size ≤ b) (hz : Turn (fun k => k = b ∨ k = b + 1) wb wz) : KRes2 w K U (.returned (.tuple #[v, .int .i64 0])) wz :=
  hn.put2 (u3 := .nilIface) t h.bx hl (by omega) h.e0 h.er hz rfl
theorem told_sum {K : Nat} {V : Int} (q : Nat) (oq : Option (Nat × Nat)) (x E : Int) (w : World) (hI : It w q oq x) (h1 : -(K : Int) ≤ E) (_h2 : E ≤ 1048576) (hv : V = x * 2 ^ (E + K).toNat) (hV : V.natAbs < 2 ^ 50000) (hK : K ≤ 10000) (hT : Tab w) :
    Calls Tryz.prog 93 #[.agg #[.pointer (some ⟨q, 0, none⟩), .int .i64 E]] w (KRes w K V) := by
  by_cases hx : x = 0
  · subst hx
    refine (told_zero q oq E w hI).mono fun en w' h => ?_
    have := h.k h1
    rw [hv]
    exact this
  · obtain ⟨a, b⟩ := mul_pow_bound hv hx hV
    rw [hv]
    exact told_k q oq x E K w hI (by omega) h1 (by omega) (by omega) hT
set_option maxRecDepth 100000 in
set_option maxHeartbeats 2000000 in
theorem Sum_any (lb lo n c K : Nat) (a : Option Addr) (U : Nat → Int) (w : World) (hn : n ≤ 1000) (hK : K ≤ 10000) (ha : n = 0 ∨ a = some ⟨lb, lo, none⟩) (hd : Nms w lb lo n K U) (hU : ∀ j, j < n → (U j).natAbs < 2 ^ 39000) (hT : Tab w) :
    Calls Tryz.prog 74 #[.slice a n c] w (KRes2 w K (psum U n)) := by
  have hb := Rb.made w
  have t1 := ((Turn.refl (fun _ => False) w).alloc (.cells #[.bool false, .slice none 0 0, .int .i64 0] 53)).alloc (.cells #[.int .i64 0] 30)
  have hO := open_any lb lo n c K a U _ (by omega) ha (hd.still t1)
  generalize hw1 : (w.alloc (.cells #[.bool false, .slice none 0 0, .int .i64 0] 53)).alloc (.cells #[.int .i64 0] 30) = w1 at *
  have hP := fun wa b p o m e (h : Exs w1 wa b n K U p o m e) => plus_any w1 b n n K (some ⟨b, 0, none⟩) U p o m e wa hn hK (.inr rfl) h hU
  have hTd := fun wb q oq x E (t : Turn (fun _ => False) w1 wb) (h : It wb q oq x) (h1 : -(K : Int) ≤ E) (h2 : E ≤ 1048576) (h3 : psum U n = x * 2 ^ (E + K).toNat) => told_sum (K := K) (V := psum U n) q oq x E wb h h1 h2 h3 (lt_up (a := 39010) (b := 50000) (psum_lt hn hU (Nat.le_refl _)) (by decide)) hK ((hT.still t1).still t)
  subst hw1
  replace hb := Lib.hid hb
  replace t1 := Lib.hid t1
  replace hP := Lib.hid hP
  replace hTd := Lib.hid hTd
  clear hd hU ha hT
  go_enter_defers Tryz.func74, Tryz.ntmps74
  go_wp2_with (first
    | (go_at_call 63; ((with_reducible refine hO.mono ?_)); rintro en wa ⟨bb, p, o, m, e, rfl, h1, h2, h3, h4⟩
       have hP2 := hP.out _ _ _ _ _ _ h3)
    | (go_at_call 94; ((with_reducible refine hP2.mono ?_)); rintro en wb ⟨q, oq, x, E, rfl, g1, g2, g3, g4, g5⟩
       have hT2 := hTd.out _ _ _ _ _ (h4.trans' g5) g1 g2 g3 g4)
    | (go_at_call 93; ((with_reducible refine hT2.mono ?_)); rintro en wc ⟨v, rfl, k1, k2⟩
       obtain ⟨s, a', k, c', E', rfl⟩ := k1.form
       have t3 := (h4.trans' g5).trans' k2
       have hq := hb.out.still t3
       obtain ⟨⟨q0, q1, q2, f0, f1, f2, -⟩, d0, d1, -⟩ := hq
       have hq := Lib.hid (hb.out.still t3)
       have ht := Lib.hid (t1.out.trans' t3)
       replace k1 := Lib.hid k1
       clear h1 h2 h3 h4 g1 g2 g3 g4 g5 k2 t3 hP2 hT2))
  obtain ⟨r, hz⟩ := put4 (b := w.heap.size) (b' := w.heap.size + 1) (by omega) (.bool s) (.slice a' k c') (.int .i64 E') (.int .i64 0) q0 q1 q2 d0
  generalize ((((wc.setCell ⟨w.heap.size, 0, none⟩ (.bool s)).setCell ⟨w.heap.size, 1, none⟩ (.slice a' k c')).setCell ⟨w.heap.size, 2, none⟩ (.int .i64 E')).setCell ⟨w.heap.size + 1, 0, none⟩ (.int .i64 0)) = wz at *
  obtain ⟨r0, r1, r2, r3⟩ := r
  refine leaves_cons (f := 62) (args := #[.pointer (some ⟨w.heap.size + 1, 0, none⟩)]) (by simp) (by simp [go_sem]) ?_
  refine (caught_idle _ _).mono ?_
  rintro e u' w'' ⟨rfl, rfl, rfl⟩
  have hfin := Rb.fin k1.out ht.out hq.out (Nat.le_refl _) hz
  simp [Leaves, settle, results, Tryz.results74, go_sem, r0, r1, r2, r3]
  exact hfin
end
section
open Go.RowKit
abbrev two4 (w : World) (a0 a1 a2 b0 b1 b2 : Value) : World := (((w.alloc (.cells #[a0, a1, a2] 53)).alloc (.cells #[b0, b1, b2] 53)).alloc (.cells #[.bool false, .slice none 0 0, .int .i64 0] 53)).alloc (.cells #[.int .i64 0] 30)
abbrev two5 (w : World) (a0 a1 a2 b0 b1 b2 : Value) : World := (two4 w a0 a1 a2 b0 b1 b2).alloc (.cells #[a0, a1, a2, b0, b1, b2] 53)
def U2 (A B : Int) (j : Nat) : Int := if j = 0 then A else B
theorem two5_turn (w : World) (a0 a1 a2 b0 b1 b2 : Value) : Turn (fun _ => False) w (two5 w a0 a1 a2 b0 b1 b2) :=
  ((((((Turn.refl (fun _ => False) w).alloc _).alloc _).alloc _).alloc _)).alloc _
theorem two5_rb (w : World) (a0 a1 a2 b0 b1 b2 : Value) : Rb (two5 w a0 a1 a2 b0 b1 b2) (w.heap.size + 1 + 1) := by
  have h := Rb.made ((w.alloc (.cells #[a0, a1, a2] 53)).alloc (.cells #[b0, b1, b2] 53))
  rw [size_alloc, size_alloc] at h
  exact h.still ((Turn.refl (fun _ => False) _).alloc _)
theorem two5_size (w : World) (a0 a1 a2 b0 b1 b2 : Value) : (two4 w a0 a1 a2 b0 b1 b2).heap.size = w.heap.size + 1 + 1 + 1 + 1 := by simp
theorem two5_nms {w : World} {K : Nat} {A B : Int} {s1 s2 : Bool} {l1 l2 : Option Addr} {n1 n2 c1 c2 : Nat} {e1 e2 : Int} (ha : NumK w (.agg #[.bool s1, .slice l1 n1 c1, .int .i64 e1]) K A) (hb : NumK w (.agg #[.bool s2, .slice l2 n2 c2, .int .i64 e2]) K B) :
    Nms (two5 w (.bool s1) (.slice l1 n1 c1) (.int .i64 e1) (.bool s2) (.slice l2 n2 c2) (.int .i64 e2)) (w.heap.size + 1 + 1 + 1 + 1) 0 2 K (U2 A B) := by
  intro j hj
  have t := two5_turn w (.bool s1) (.slice l1 n1 c1) (.int .i64 e1) (.bool s2) (.slice l2 n2 c2) (.int .i64 e2)
  have hc := fun i => cell_made #[.bool s1, .slice l1 n1 c1, .int .i64 e1, .bool s2, .slice l2 n2 c2, .int .i64 e2] 53 (two4 w (.bool s1) (.slice l1 n1 c1) (.int .i64 e1) (.bool s2) (.slice l2 n2 c2) (.int .i64 e2)) i
  rw [two5_size] at hc
  rcases (by omega : j = 0 ∨ j = 1) with rfl | rfl
  · exact ⟨s1, l1, n1, c1, e1, hc 0, hc 1, hc 2, ha.still t⟩
  · exact ⟨s2, l2, n2, c2, e2, hc 3, hc 4, hc 5, hb.still t⟩
theorem U2_lt {A B : Int} {N : Nat} (ha : A.natAbs < N) (hb : B.natAbs < N) : ∀ j, j < 2 → (U2 A B j).natAbs < N := by
  intro j hj
  unfold U2
  split
  · exact ha
  · exact hb
theorem psum_two (A B : Int) : psum (U2 A B) 2 = A + B := by
  show 0 + U2 A B 0 + U2 A B 1 = _
  unfold U2
  rw [if_pos rfl, if_neg (by omega)]
  omega
set_option maxRecDepth 100000 in
set_option maxHeartbeats 2000000 in
theorem dAdd_any (va vb : Value) (K : Nat) (A B : Int) (w : World) (hK : K ≤ 10000) (ha : NumK w va K A) (hb : NumK w vb K B) (hA : A.natAbs < 2 ^ 39000) (hB : B.natAbs < 2 ^ 39000) (hT : Tab w) :
    Calls Tryz.prog 151 #[va, vb] w (KRes2 w K (A + B)) := by
  obtain ⟨s1, l1, n1, c1, e1, rfl⟩ := ha.form
  obtain ⟨s2, l2, n2, c2, e2, rfl⟩ := hb.form
  have t1 := two5_turn w (.bool s1) (.slice l1 n1 c1) (.int .i64 e1) (.bool s2) (.slice l2 n2 c2) (.int .i64 e2)
  have hr := two5_rb w (.bool s1) (.slice l1 n1 c1) (.int .i64 e1) (.bool s2) (.slice l2 n2 c2) (.int .i64 e2)
  have hO := open_any (w.heap.size + 1 + 1 + 1 + 1) 0 2 2 K (some ⟨w.heap.size + 1 + 1 + 1 + 1, 0, none⟩) (U2 A B) _ (by omega) (.inr rfl) (two5_nms ha hb)
  have hU := U2_lt hA hB
  have hP := fun w1 wa b p o m e (h : Exs w1 wa b 2 K (U2 A B) p o m e) => plus_any w1 b 2 2 K (some ⟨b, 0, none⟩) (U2 A B) p o m e wa (by omega) hK (.inr rfl) h hU
  have hTd := fun wb q oq x E (t : Turn (fun _ => False) w wb) (h : It wb q oq x) (h1 : -(K : Int) ≤ E) (h2 : E ≤ 1048576) (h3 : psum (U2 A B) 2 = x * 2 ^ (E + K).toNat) => told_sum (K := K) (V := psum (U2 A B) 2) q oq x E wb h h1 h2 h3 (lt_up (a := 39010) (b := 50000) (psum_lt (n := 2) (by omega) hU (Nat.le_refl _)) (by decide)) hK (hT.still t)
  rw [psum_two] at hTd
  replace hP := Lib.hid hP
  replace hTd := Lib.hid hTd
  replace hr := Lib.hid hr
  replace t1 := Lib.hid t1
  clear ha hb hA hB hT hU
  go_enter_defers Tryz.func151, Tryz.ntmps151
  go_wp2_with (first
    | (go_at_call 63; ((with_reducible refine hO.mono ?_)); rintro en wa ⟨bb, p, o, m, e, rfl, h1, h2, h3, h4⟩
       have hP2 := hP.out _ _ _ _ _ _ _ h3)
    | (go_at_call 94; ((with_reducible refine hP2.mono ?_)); rintro en wb ⟨q, oq, x, E, rfl, g1, g2, g3, g4, g5⟩
       rw [psum_two] at g4
       have hT2 := hTd.out _ _ _ _ _ ((t1.out.trans' h4).trans' g5) g1 g2 g3 g4)
    | (go_at_call 93; ((with_reducible refine hT2.mono ?_)); rintro en wc ⟨v, rfl, k1, k2⟩
       obtain ⟨s, a', k, c', E', rfl⟩ := k1.form
       have t3 := (h4.trans' g5).trans' k2
       have hq := hr.out.still t3
       obtain ⟨⟨q0, q1, q2, f0, f1, f2, -⟩, d0, d1, -⟩ := hq
       have hq := Lib.hid (hr.out.still t3)
       have ht := Lib.hid (t1.out.trans' t3)
       replace k1 := Lib.hid k1
       clear h1 h2 h3 h4 g1 g2 g3 g4 g5 k2 t3 hP2 hT2))
  obtain ⟨r, hz⟩ := put4 (b := w.heap.size + 1 + 1) (b' := w.heap.size + 1 + 1 + 1) (by omega) (.bool s) (.slice a' k c') (.int .i64 E') (.int .i64 0) q0 q1 q2 d0
  generalize ((((wc.setCell ⟨w.heap.size + 1 + 1, 0, none⟩ (.bool s)).setCell ⟨w.heap.size + 1 + 1, 1, none⟩ (.slice a' k c')).setCell ⟨w.heap.size + 1 + 1, 2, none⟩ (.int .i64 E')).setCell ⟨w.heap.size + 1 + 1 + 1, 0, none⟩ (.int .i64 0)) = wz at *
  obtain ⟨r0, r1, r2, r3⟩ := r
  refine leaves_cons (f := 62) (args := #[.pointer (some ⟨w.heap.size + 1 + 1 + 1, 0, none⟩)]) (by simp) (by simp [go_sem]) ?_
  refine (caught_idle _ _).mono ?_
  rintro e u' w'' ⟨rfl, rfl, rfl⟩
  have hfin := Rb.fin k1.out ht.out hq.out (by omega) hz
  simp [Leaves, settle, results, Tryz.results151, go_sem, r0, r1, r2, r3]
  exact hfin
theorem Exs.neg {w0 w w' : World} {b K : Nat} {A B : Int} {p : Nat → Nat} {o : Nat → Option (Nat × Nat)} {m e : Nat → Int} (h : Exs w0 w b 2 K (U2 A B) p o m e) (hI : It w' (p 1) (o 1) (-m 1)) (t : Turn (fun k => k = p 1) w w') : Exs w0 w' b 2 K (U2 A (-B)) p o (at_ m 1 (-m 1)) e := by
  have hb : ¬ b = p 1 := fun e => (h.new 1 (by omega) (p 1) (.inl rfl)).2 e.symm
  have cases : ∀ j, j < 2 → j = 0 ∨ j = 1 := fun j hj => by omega
  refine ⟨fun j hj => (t.cell (p := ⟨b, _, none⟩) (World.block_lt_of_cell? w _ (h.c0 j hj)) hb).trans (h.c0 j hj), fun j hj => (t.cell (p := ⟨b, _, none⟩) (World.block_lt_of_cell? w _ (h.c1 j hj)) hb).trans (h.c1 j hj), ?_, h.lo, ?_, ?_, h.new, h.dis⟩
  · intro j hj
    rcases cases j hj with rfl | rfl
    · rw [at_lt _ _ (by omega)]
      exact (h.it 0 hj).turn t fun k hk e => h.dis 0 1 (by omega) (by omega) k hk (.inl e)
    · rw [at_same]; exact hI
  · intro j hj
    rcases cases j hj with rfl | rfl
    · rw [at_lt _ _ (by omega)]; exact h.val 0 hj
    · rw [at_same, Int.neg_mul, ← h.val 1 hj]; rfl
  · intro j hj
    rcases cases j hj with rfl | rfl
    · rw [at_lt _ _ (by omega)]; exact h.hi 0 hj
    · rw [at_same, Int.natAbs_neg]; exact h.hi 1 hj
set_option maxRecDepth 100000 in
set_option maxHeartbeats 2000000 in
theorem dSub_any (va vb : Value) (K : Nat) (A B : Int) (w : World) (hK : K ≤ 10000) (ha : NumK w va K A) (hb : NumK w vb K B) (hA : A.natAbs < 2 ^ 39000) (hB : B.natAbs < 2 ^ 39000) (hT : Tab w) :
    Calls Tryz.prog 65 #[va, vb] w (KRes2 w K (A - B)) := by
  obtain ⟨s1, l1, n1, c1, e1, rfl⟩ := ha.form
  obtain ⟨s2, l2, n2, c2, e2, rfl⟩ := hb.form
  have t1 := two5_turn w (.bool s1) (.slice l1 n1 c1) (.int .i64 e1) (.bool s2) (.slice l2 n2 c2) (.int .i64 e2)
  have hr := two5_rb w (.bool s1) (.slice l1 n1 c1) (.int .i64 e1) (.bool s2) (.slice l2 n2 c2) (.int .i64 e2)
  have hO := open_any (w.heap.size + 1 + 1 + 1 + 1) 0 2 2 K (some ⟨w.heap.size + 1 + 1 + 1 + 1, 0, none⟩) (U2 A B) _ (by omega) (.inr rfl) (two5_nms ha hb)
  have hU := U2_lt hA (neg_ltN hB)
  have hP := fun w1 wa b p o m e (h : Exs w1 wa b 2 K (U2 A (-B)) p o m e) => plus_any w1 b 2 2 K (some ⟨b, 0, none⟩) (U2 A (-B)) p o m e wa (by omega) hK (.inr rfl) h hU
  have hTd := fun wb q oq x E (t : Turn (fun _ => False) w wb) (h : It wb q oq x) (h1 : -(K : Int) ≤ E) (h2 : E ≤ 1048576) (h3 : psum (U2 A (-B)) 2 = x * 2 ^ (E + K).toNat) => told_sum (K := K) (V := psum (U2 A (-B)) 2) q oq x E wb h h1 h2 h3 (lt_up (a := 39010) (b := 50000) (psum_lt (n := 2) (by omega) hU (Nat.le_refl _)) (by decide)) hK (hT.still t)
  rw [psum_two] at hTd
  replace hP := Lib.hid hP
  replace hTd := Lib.hid hTd
  replace hr := Lib.hid hr
  replace t1 := Lib.hid t1
  clear ha hb hA hB hT hU
  go_enter_defers Tryz.func65, Tryz.ntmps65
  go_wp2_with (go_at_call 63; ((with_reducible refine hO.mono ?_)); rintro en wa ⟨bb, p, o, m, e, rfl, h1, h2, h3, h4⟩)
  have x0 : wa.drew.cell? ⟨bb, 2, none⟩ = some (.pointer (some ⟨p 1, 0, none⟩)) := h3.c0 1 (by omega)
  have hN := Neg_same (p 1) (o 1) (m 1) _ (h3.it 1 (by omega)).drew
  have hne : ¬ bb = p 1 := fun e => (h3.new 1 (by omega) (p 1) (.inl rfl)).2 e.symm
  have hnew := (h3.new 1 (by omega) (p 1) (.inl rfl)).1
  have hlb : bb < wa.drew.heap.size := h2
  have h3 := Lib.hid h3
  go_region_held3 (fun wx => wx.cell? ⟨bb, 2, none⟩ = some (.pointer (some ⟨p 1, 0, none⟩))) (assumption)
    (first
      | (go_at_call 92; ((with_reducible refine hN.mono ?_)); rintro en wn ⟨rfl, j1, j2⟩
         have x1 := (j2.cell (p := ⟨bb, 2, none⟩) hlb hne).trans x0
         have hP2 := hP.out _ _ _ _ _ _ _ (h3.out.neg j1 ⟨j2.os, j2.tape, j2.output, j2.size, j2.block⟩)
         have j3 : Turn (fun k => k = p 1) wa wn := ⟨j2.os, j2.tape, j2.output, j2.size, j2.block⟩
         have h5 := Lib.hid (h4.trans j3 fun k hk e => by omega)
         clear j1 j2 j3))
  rename_i hh
  clear hh x0 x1 hN hne hnew
  go_wp2_with (first
    | (go_at_call 94; ((with_reducible refine hP2.mono ?_)); rintro en wb ⟨q, oq, x, E, rfl, g1, g2, g3, g4, g5⟩
       rw [psum_two] at g4
       have hT2 := hTd.out _ _ _ _ _ ((t1.out.trans' h5.out).trans' g5) g1 g2 g3 g4)
    | (go_at_call 93; ((with_reducible refine hT2.mono ?_)); rintro en wc ⟨v, rfl, k1, k2⟩
       obtain ⟨s, a', k, c', E', rfl⟩ := k1.form
       have t3 := (h5.out.trans' g5).trans' k2
       have hq := hr.out.still t3
       obtain ⟨⟨q0, q1, q2, f0, f1, f2, -⟩, d0, d1, -⟩ := hq
       have hq := Lib.hid (hr.out.still t3)
       have ht := Lib.hid (t1.out.trans' t3)
       replace k1 := Lib.hid k1
       clear g1 g2 g3 g4 g5 k2 t3 hP2 hT2))
  obtain ⟨r, hz⟩ := put4 (b := w.heap.size + 1 + 1) (b' := w.heap.size + 1 + 1 + 1) (by omega) (.bool s) (.slice a' k c') (.int .i64 E') (.int .i64 0) q0 q1 q2 d0
  generalize ((((wc.setCell ⟨w.heap.size + 1 + 1, 0, none⟩ (.bool s)).setCell ⟨w.heap.size + 1 + 1, 1, none⟩ (.slice a' k c')).setCell ⟨w.heap.size + 1 + 1, 2, none⟩ (.int .i64 E')).setCell ⟨w.heap.size + 1 + 1 + 1, 0, none⟩ (.int .i64 0)) = wz at *
  obtain ⟨r0, r1, r2, r3⟩ := r
  refine leaves_cons (f := 62) (args := #[.pointer (some ⟨w.heap.size + 1 + 1 + 1, 0, none⟩)]) (by simp) (by simp [go_sem]) ?_
  refine (caught_idle _ _).mono ?_
  rintro e u' w'' ⟨rfl, rfl, rfl⟩
  have hfin := Rb.fin k1.out ht.out hq.out (by omega) hz
  simp [Leaves, settle, results, Tryz.results65, go_sem, r0, r1, r2, r3]
  exact hfin
abbrev cmp5 (w : World) (a0 a1 a2 b0 b1 b2 : Value) : World := (((w.alloc (.cells #[a0, a1, a2] 53)).alloc (.cells #[b0, b1, b2] 53)).alloc (.cells #[.int .i64 0] 30)).alloc (.cells #[a0, a1, a2, b0, b1, b2] 53)
theorem cmp5_turn (w : World) (a0 a1 a2 b0 b1 b2 : Value) : Turn (fun _ => False) w (cmp5 w a0 a1 a2 b0 b1 b2) :=
  ((((Turn.refl (fun _ => False) w).alloc _).alloc _).alloc _).alloc _
theorem cmp5_err (w : World) (a0 a1 a2 b0 b1 b2 : Value) : (cmp5 w a0 a1 a2 b0 b1 b2).cell? ⟨w.heap.size + 1 + 1, 0, none⟩ = some (.int .i64 0) ∧ (cmp5 w a0 a1 a2 b0 b1 b2).frozen? ⟨w.heap.size + 1 + 1, 0, none⟩ = false ∧ w.heap.size + 1 + 1 < (cmp5 w a0 a1 a2 b0 b1 b2).heap.size := by
  have s1 := size_alloc w (.cells #[a0, a1, a2] 53)
  have s2 := size_alloc (w.alloc (.cells #[a0, a1, a2] 53)) (.cells #[b0, b1, b2] 53)
  have s3 := size_alloc ((w.alloc (.cells #[a0, a1, a2] 53)).alloc (.cells #[b0, b1, b2] 53)) (.cells #[.int .i64 0] 30)
  have s4 := size_alloc (((w.alloc (.cells #[a0, a1, a2] 53)).alloc (.cells #[b0, b1, b2] 53)).alloc (.cells #[.int .i64 0] 30)) (.cells #[a0, a1, a2, b0, b1, b2] 53)
  have t := (Turn.refl (fun _ => False) (((w.alloc (.cells #[a0, a1, a2] 53)).alloc (.cells #[b0, b1, b2] 53)).alloc (.cells #[.int .i64 0] 30))).alloc (.cells #[a0, a1, a2, b0, b1, b2] 53)
  rw [show w.heap.size + 1 + 1 = ((w.alloc (.cells #[a0, a1, a2] 53)).alloc (.cells #[b0, b1, b2] 53)).heap.size by omega]
  have hl : ((w.alloc (.cells #[a0, a1, a2] 53)).alloc (.cells #[b0, b1, b2] 53)).heap.size < (((w.alloc (.cells #[a0, a1, a2] 53)).alloc (.cells #[b0, b1, b2] 53)).alloc (.cells #[.int .i64 0] 30)).heap.size := by omega
  exact ⟨(t.cell (p := ⟨_, 0, none⟩) hl id).trans (cell_made _ _ _ 0), (t.frozen (p := ⟨_, 0, none⟩) hl id).trans (frozen_made _ _ _ 0), by show _ < (World.alloc _ _).heap.size; omega⟩
theorem cmp5_nms {w : World} {K : Nat} {A B : Int} {s1 s2 : Bool} {l1 l2 : Option Addr} {n1 n2 c1 c2 : Nat} {e1 e2 : Int} (ha : NumK w (.agg #[.bool s1, .slice l1 n1 c1, .int .i64 e1]) K A) (hb : NumK w (.agg #[.bool s2, .slice l2 n2 c2, .int .i64 e2]) K B) :
    Nms (cmp5 w (.bool s1) (.slice l1 n1 c1) (.int .i64 e1) (.bool s2) (.slice l2 n2 c2) (.int .i64 e2)) (w.heap.size + 1 + 1 + 1) 0 2 K (U2 A B) := by
  intro j hj
  have t := cmp5_turn w (.bool s1) (.slice l1 n1 c1) (.int .i64 e1) (.bool s2) (.slice l2 n2 c2) (.int .i64 e2)
  have hc := fun i => cell_made #[.bool s1, .slice l1 n1 c1, .int .i64 e1, .bool s2, .slice l2 n2 c2, .int .i64 e2] 53 (((w.alloc (.cells #[.bool s1, .slice l1 n1 c1, .int .i64 e1] 53)).alloc (.cells #[.bool s2, .slice l2 n2 c2, .int .i64 e2] 53)).alloc (.cells #[.int .i64 0] 30)) i
  rw [size_alloc, size_alloc, size_alloc] at hc
  rcases (by omega : j = 0 ∨ j = 1) with rfl | rfl
  · exact ⟨s1, l1, n1, c1, e1, hc 0, hc 1, hc 2, ha.still t⟩
  · exact ⟨s2, l2, n2, c2, e2, hc 3, hc 4, hc 5, hb.still t⟩
theorem run_field_ex (q : Nat) (E : Int) (w : World) : (Instr.field 97 (.agg #[.pointer (some ⟨q, 0, none⟩), .int .i64 E]) 0).run Tryz.prog w = .ok (.pointer (some ⟨q, 0, none⟩)) w := by kernel_rfl
theorem sgn_mul (x : Int) (a : Nat) : sgn (x * 2 ^ a) = sgn x := by
  have p := pow_pos2 a
  unfold sgn
  by_cases h : x < 0
  · rw [if_pos h, if_pos (Int.mul_neg_of_neg_of_pos h p)]
  · rw [if_neg h, if_neg (by have := Int.mul_nonneg (show 0 ≤ x by omega) (Int.le_of_lt p); omega)]
    by_cases h0 : x = 0
    · rw [if_pos h0, h0, Int.zero_mul, if_pos rfl]
    · rw [if_neg h0, if_neg (fun e => by rcases Int.mul_eq_zero.1 e with g | g <;> omega)]
def SRes (w : World) (z : Int) (en : Ending) (w' : World) : Prop := en = .returned (.tuple #[.int .i64 z, .int .i64 0]) ∧ Turn (fun _ => False) w w'
set_option maxRecDepth 100000 in
set_option maxHeartbeats 2000000 in
theorem dCmp_any (va vb : Value) (K : Nat) (A B : Int) (w : World) (hK : K ≤ 10000) (ha : NumK w va K A) (hb : NumK w vb K B) (hA : A.natAbs < 2 ^ 39000) (hB : B.natAbs < 2 ^ 39000) :
    Calls Tryz.prog 166 #[va, vb] w (SRes w (sgn (A - B))) := by
  obtain ⟨s1, l1, n1, c1, e1, rfl⟩ := ha.form
  obtain ⟨s2, l2, n2, c2, e2, rfl⟩ := hb.form
  have t1 := cmp5_turn w (.bool s1) (.slice l1 n1 c1) (.int .i64 e1) (.bool s2) (.slice l2 n2 c2) (.int .i64 e2)
  obtain ⟨r0, r1, r2⟩ := cmp5_err w (.bool s1) (.slice l1 n1 c1) (.int .i64 e1) (.bool s2) (.slice l2 n2 c2) (.int .i64 e2)
  have hO := open_any (w.heap.size + 1 + 1 + 1) 0 2 2 K (some ⟨w.heap.size + 1 + 1 + 1, 0, none⟩) (U2 A B) _ (by omega) (.inr rfl) (cmp5_nms ha hb)
  have hU := U2_lt hA (neg_ltN hB)
  have hP := fun w1 wa b p o m e (h : Exs w1 wa b 2 K (U2 A (-B)) p o m e) => plus_any w1 b 2 2 K (some ⟨b, 0, none⟩) (U2 A (-B)) p o m e wa (by omega) hK (.inr rfl) h hU
  replace hP := Lib.hid hP
  replace t1 := Lib.hid t1
  replace r0 := Lib.hid r0
  replace r1 := Lib.hid r1
  replace r2 := Lib.hid r2
  clear ha hb hA hB hU
  have hfd := run_field_ex
  go_enter_defers Tryz.func166, Tryz.ntmps166
  go_wp2_with (go_at_call 63; ((with_reducible refine hO.mono ?_)); rintro en wa ⟨bb, p, o, m, e, rfl, h1, h2, h3, h4⟩)
  have x0 : wa.drew.cell? ⟨bb, 2, none⟩ = some (.pointer (some ⟨p 1, 0, none⟩)) := h3.c0 1 (by omega)
  have hN := Neg_same (p 1) (o 1) (m 1) _ (h3.it 1 (by omega)).drew
  have hne : ¬ bb = p 1 := fun e => (h3.new 1 (by omega) (p 1) (.inl rfl)).2 e.symm
  have hnew := (h3.new 1 (by omega) (p 1) (.inl rfl)).1
  have hlb : bb < wa.drew.heap.size := h2
  have h3 := Lib.hid h3
  go_region_held3 (fun wx => wx.cell? ⟨bb, 2, none⟩ = some (.pointer (some ⟨p 1, 0, none⟩))) (assumption)
    (first
      | (go_at_call 92; ((with_reducible refine hN.mono ?_)); rintro en wn ⟨rfl, j1, j2⟩
         have x1 := (j2.cell (p := ⟨bb, 2, none⟩) hlb hne).trans x0
         have hP2 := hP.out _ _ _ _ _ _ _ (h3.out.neg j1 ⟨j2.os, j2.tape, j2.output, j2.size, j2.block⟩)
         have j3 : Turn (fun k => k = p 1) wa wn := ⟨j2.os, j2.tape, j2.output, j2.size, j2.block⟩
         have h5 := Lib.hid (h4.trans j3 fun k hk e => by omega)
         clear j1 j2 j3))
  rename_i hh
  clear hh x0 x1 hN hne hnew
  go_wp2_with (first
    | (go_at_call 94; ((with_reducible refine hP2.mono ?_)); rintro en wb ⟨q, oq, x, E, rfl, g1, g2, g3, g4, g5⟩
       have hS := Sign_any q oq x wb g1
       have t3 := h5.out.trans' g5
       have d0 := (t3.cell (p := ⟨w.heap.size + 1 + 1, 0, none⟩) r2.out id).trans r0.out
       have d1 := (t3.frozen (p := ⟨w.heap.size + 1 + 1, 0, none⟩) r2.out id).trans r1.out
       have ht := Lib.hid (t1.out.trans' t3)
       rw [psum_two, ← Int.sub_eq_add_neg] at g4
       have hv : sgn x = sgn (A - B) := by rw [g4, sgn_mul]
       rw [hv] at hS
       replace hv := Lib.hid hv
       clear t3 g1 g2 g3 g4 g5 hP2)
    | (go_at_call 64; ((with_reducible refine hS.mono ?_)); rintro en wc ⟨rfl, rfl⟩))
  have rz := World.cell?_setCell_same wb _ (.int .i64 0) d0
  have hz : Turn (fun k => k = w.heap.size + 1 + 1) wb (wb.setCell ⟨w.heap.size + 1 + 1, 0, none⟩ (.int .i64 0)) := (Turn.refl (fun k => k = w.heap.size + 1 + 1) wb).setCell (p := ⟨w.heap.size + 1 + 1, 0, none⟩) (fun _ => rfl) _
  generalize (wb.setCell ⟨w.heap.size + 1 + 1, 0, none⟩ (.int .i64 0)) = wz at *
  refine leaves_cons (f := 62) (args := #[.pointer (some ⟨w.heap.size + 1 + 1, 0, none⟩)]) (by simp) (by simp [go_sem]) ?_
  refine (caught_idle _ _).mono ?_
  rintro e u' w'' ⟨rfl, rfl, rfl⟩
  have hfin : SRes w (sgn (A - B)) (.returned (.tuple #[.int .i64 (sgn (A - B)), .int .i64 0])) w'' := ⟨rfl, ht.out.trans hz fun k hk e => by omega⟩
  simp [Leaves, settle, results, Tryz.results166, go_sem, rz]
  exact hfin
abbrev one3 (w : World) (a0 a1 a2 : Value) : World := ((w.alloc (.cells #[a0, a1, a2] 53)).alloc (.cells #[.int .i64 0] 30)).alloc (.cells #[a0, a1, a2] 53)
theorem one3_turn (w : World) (a0 a1 a2 : Value) : Turn (fun _ => False) w (one3 w a0 a1 a2) := (((Turn.refl (fun _ => False) w).alloc _).alloc _).alloc _
theorem one3_err (w : World) (a0 a1 a2 : Value) : (one3 w a0 a1 a2).cell? ⟨w.heap.size + 1, 0, none⟩ = some (.int .i64 0) ∧ (one3 w a0 a1 a2).frozen? ⟨w.heap.size + 1, 0, none⟩ = false ∧ w.heap.size + 1 < (one3 w a0 a1 a2).heap.size := by
  have s1 := size_alloc w (.cells #[a0, a1, a2] 53)
  have s2 := size_alloc (w.alloc (.cells #[a0, a1, a2] 53)) (.cells #[.int .i64 0] 30)
  have s3 := size_alloc ((w.alloc (.cells #[a0, a1, a2] 53)).alloc (.cells #[.int .i64 0] 30)) (.cells #[a0, a1, a2] 53)
  have t := (Turn.refl (fun _ => False) ((w.alloc (.cells #[a0, a1, a2] 53)).alloc (.cells #[.int .i64 0] 30))).alloc (.cells #[a0, a1, a2] 53)
  rw [← s1]
  have hl : (w.alloc (.cells #[a0, a1, a2] 53)).heap.size < ((w.alloc (.cells #[a0, a1, a2] 53)).alloc (.cells #[.int .i64 0] 30)).heap.size := by omega
  exact ⟨(t.cell (p := ⟨_, 0, none⟩) hl id).trans (cell_made _ _ _ 0), (t.frozen (p := ⟨_, 0, none⟩) hl id).trans (frozen_made _ _ _ 0), by show _ < (World.alloc _ _).heap.size; omega⟩
theorem one3_nms {w : World} {K : Nat} {A : Int} {s1 : Bool} {l1 : Option Addr} {n1 c1 : Nat} {e1 : Int} (ha : NumK w (.agg #[.bool s1, .slice l1 n1 c1, .int .i64 e1]) K A) :
    Nms (one3 w (.bool s1) (.slice l1 n1 c1) (.int .i64 e1)) (w.heap.size + 1 + 1) 0 1 K (fun _ => A) := by
  intro j hj
  have t := one3_turn w (.bool s1) (.slice l1 n1 c1) (.int .i64 e1)
  have hc := fun i => cell_made #[.bool s1, .slice l1 n1 c1, .int .i64 e1] 53 ((w.alloc (.cells #[.bool s1, .slice l1 n1 c1, .int .i64 e1] 53)).alloc (.cells #[.int .i64 0] 30)) i
  rw [size_alloc, size_alloc] at hc
  obtain rfl : j = 0 := by omega
  exact ⟨s1, l1, n1, c1, e1, hc 0, hc 1, hc 2, ha.still t⟩
set_option maxRecDepth 100000 in
set_option maxHeartbeats 2000000 in
theorem dSign_any (va : Value) (K : Nat) (A : Int) (w : World) (ha : NumK w va K A) :
    Calls Tryz.prog 40 #[va] w (SRes w (sgn A)) := by
  obtain ⟨s1, l1, n1, c1, e1, rfl⟩ := ha.form
  have t1 := one3_turn w (.bool s1) (.slice l1 n1 c1) (.int .i64 e1)
  obtain ⟨r0, r1, r2⟩ := one3_err w (.bool s1) (.slice l1 n1 c1) (.int .i64 e1)
  have hO := open_any (w.heap.size + 1 + 1) 0 1 1 K (some ⟨w.heap.size + 1 + 1, 0, none⟩) (fun _ => A) _ (by omega) (.inr rfl) (one3_nms ha)
  replace t1 := Lib.hid t1
  replace r0 := Lib.hid r0
  replace r1 := Lib.hid r1
  replace r2 := Lib.hid r2
  clear ha
  go_enter_defers Tryz.func40, Tryz.ntmps40
  go_wp2_with (first
    | (go_at_call 63; ((with_reducible refine hO.mono ?_)); rintro en wa ⟨bb, p, o, m, e, rfl, h1, h2, h3, h4⟩
       have x0 : wa.cell? ⟨bb, 0, none⟩ = some (.pointer (some ⟨p 0, 0, none⟩)) := h3.c0 0 (by omega)
       have hS := Sign_any _ _ _ _ (h3.it 0 (by omega))
       have hv : sgn (m 0) = sgn A := by (have := h3.val 0 (by omega)); rw [this, sgn_mul]
       rw [hv] at hS
       replace hv := Lib.hid hv
       have d0 := (h4.cell (p := ⟨w.heap.size + 1, 0, none⟩) r2.out id).trans r0.out
       have d1 := (h4.frozen (p := ⟨w.heap.size + 1, 0, none⟩) r2.out id).trans r1.out
       have ht := Lib.hid (t1.out.trans' h4)
       clear h1 h2 h3 h4)
    | (go_at_call 64; ((with_reducible refine hS.mono ?_)); rintro en wc ⟨rfl, rfl⟩))
  have rz := World.cell?_setCell_same wa _ (.int .i64 0) d0
  have hz : Turn (fun k => k = w.heap.size + 1) wa (wa.setCell ⟨w.heap.size + 1, 0, none⟩ (.int .i64 0)) := (Turn.refl (fun k => k = w.heap.size + 1) wa).setCell (p := ⟨w.heap.size + 1, 0, none⟩) (fun _ => rfl) _
  generalize (wa.setCell ⟨w.heap.size + 1, 0, none⟩ (.int .i64 0)) = wz at *
  refine leaves_cons (f := 62) (args := #[.pointer (some ⟨w.heap.size + 1, 0, none⟩)]) (by simp) (by simp [go_sem]) ?_
  refine (caught_idle _ _).mono ?_
  rintro e u' w'' ⟨rfl, rfl, rfl⟩
  have hfin : SRes w (sgn A) (.returned (.tuple #[.int .i64 (sgn A), .int .i64 0])) w'' := ⟨rfl, ht.out.trans hz fun k hk e => by omega⟩
  simp [Leaves, settle, results, Tryz.results40, go_sem, rz]
  exact hfin
end
section
open Go.RowKit
theorem told_sum2 {K : Nat} {V : Int} (q : Nat) (oq : Option (Nat × Nat)) (x E : Int) (w : World) (hI : It w q oq x) (h1 : -(K : Int) ≤ E) (hv : V = x * 2 ^ (E + K).toNat) (hV : V.natAbs < 2 ^ 50000) (hK : K ≤ 10000) (hT : Tab w) :
    Calls Tryz.prog 93 #[.agg #[.pointer (some ⟨q, 0, none⟩), .int .i64 E]] w (KRes w K V) := by
  by_cases hx : x = 0
  · subst hx
    refine (told_zero q oq E w hI).mono fun en w' h => ?_
    have := h.k h1
    rw [hv]
    exact this
  · obtain ⟨a, b⟩ := mul_pow_bound hv hx hV
    rw [hv]
    exact told_k q oq x E K w hI (by omega) h1 (by omega) (by omega) hT
theorem cell_three {wa : World} {b : Nat} {v0 v1 v2 v : Value} {p : Addr} (h : p.block ≠ b) (hc : wa.cell? p = some v) : (((wa.setCell ⟨b, 0, none⟩ v0).setCell ⟨b, 1, none⟩ v1).setCell ⟨b, 2, none⟩ v2).cell? p = some v :=
  ((put3 wa b v0 v1 v2).cell (World.block_lt_of_cell? wa _ hc) h).trans hc
theorem cell_one {wa : World} {b : Nat} {v0 v : Value} {p : Addr} (h : p.block ≠ b) (hc : wa.cell? p = some v) : (wa.setCell ⟨b, 0, none⟩ v0).cell? p = some v :=
  (((Turn.refl (fun k => k = b) wa).setCell (p := ⟨b, 0, none⟩) (fun _ => rfl) v0).cell (World.block_lt_of_cell? wa _ hc) h).trans hc
set_option maxRecDepth 100000 in
set_option maxHeartbeats 2000000 in
theorem dMul_any (va vb : Value) (K : Nat) (A B : Int) (w : World) (hK : K ≤ 5000) (ha : NumK w va K A) (hb : NumK w vb K B) (hA : A.natAbs < 2 ^ 2400) (hB : B.natAbs < 2 ^ 30000) (hT : Tab w) (hk : w.cell? ⟨5, 0, none⟩ = some (.int .i64 40)) :
    Calls Tryz.prog 66 #[va, vb] w (KRes2 w (K + K) (A * B)) := by
  obtain ⟨s1, l1, n1, c1, e1, rfl⟩ := ha.form
  obtain ⟨s2, l2, n2, c2, e2, rfl⟩ := hb.form
  have t1 := two5_turn w (.bool s1) (.slice l1 n1 c1) (.int .i64 e1) (.bool s2) (.slice l2 n2 c2) (.int .i64 e2)
  have hr := two5_rb w (.bool s1) (.slice l1 n1 c1) (.int .i64 e1) (.bool s2) (.slice l2 n2 c2) (.int .i64 e2)
  have hO := open_any (w.heap.size + 1 + 1 + 1 + 1) 0 2 2 K (some ⟨w.heap.size + 1 + 1 + 1 + 1, 0, none⟩) (U2 A B) _ (by omega) (.inr rfl) (two5_nms ha hb)
  have hTd := fun wb q oq x E (t : Turn (fun _ => False) w wb) (h : It wb q oq x) (h1 : -((K + K : Nat) : Int) ≤ E) (h3 : A * B = x * 2 ^ (E + (K + K : Nat)).toNat) => told_sum2 (K := K + K) (V := A * B) q oq x E wb h h1 h3 (by rw [Int.natAbs_mul]; exact lt_mul_pw (a := 2400) (b := 30000) (c := 50000) hA hB (by decide)) (by omega) (hT.still t)
  have hM : ∀ wa b p o m e, Exs (two5 w (.bool s1) (.slice l1 n1 c1) (.int .i64 e1) (.bool s2) (.slice l2 n2 c2) (.int .i64 e2)) wa b 2 K (U2 A B) p o m e → Turn (fun _ => False) w wa → Calls Tryz.prog 95 #[.agg #[.pointer (some ⟨p 0, 0, none⟩), .int .i64 (e 0)], .agg #[.pointer (some ⟨p 1, 0, none⟩), .int .i64 (e 1)]] wa (ExRes wa (m 0 * m 1) (e 0 + e 1)) ∧ (-((K + K : Nat) : Int) ≤ e 0 + e 1 ∧ A * B = m 0 * m 1 * 2 ^ (e 0 + e 1 + (K + K : Nat)).toNat) := fun wa b p o m e h t => by
    have v0 := h.val 0 (by omega)
    have v1 := h.val 1 (by omega)
    have l0 := h.lo 0 (by omega)
    have l1 := h.lo 1 (by omega)
    obtain ⟨u0, b0⟩ := h.hi 0 (by omega)
    obtain ⟨u1, b1⟩ := h.hi 1 (by omega)
    have hA' : A = m 0 * 2 ^ (e 0 + K).toNat := v0
    have hB' : B = m 1 * 2 ^ (e 1 + K).toNat := v1
    refine ⟨times_any (p 0) (p 1) (o 0) (o 1) (m 0) (m 1) (e 0) (e 1) wa (h.it 0 (by omega)) (h.it 1 (by omega)) (fun q => h.dis 0 1 (by omega) (by omega) (p 0) (.inl rfl) (.inl q)) (.inl ?_) (by omega) (by omega) ((t.cell (p := ⟨5, 0, none⟩) (World.block_lt_of_cell? w _ hk) id).trans hk) (by omega) (by omega), by omega, ?_⟩
    · by_cases h0 : m 0 = 0
      · rw [h0]; exact Nat.zero_le _
      · have := (mul_pow_bound hA' h0 hA).2; omega
    · rw [hA', hB']
      have : (e 0 + e 1 + (K + K : Nat)).toNat = (e 0 + K).toNat + (e 1 + K).toNat := by omega
      rw [this, Int.pow_add]
      ac_rfl
  replace hM := Lib.hid hM
  replace hTd := Lib.hid hTd
  replace hr := Lib.hid hr
  replace t1 := Lib.hid t1
  clear ha hb hA hB hT hk
  go_enter_defers Tryz.func66, Tryz.ntmps66
  go_wp2_with (go_at_call 63; ((with_reducible refine hO.mono ?_)); rintro en wa ⟨bb, p, o, m, e, rfl, h1, h2, h3, h4⟩)
  have x0 : wa.drew.cell? ⟨bb, 0, none⟩ = some (.pointer (some ⟨p 0, 0, none⟩)) := h3.c0 0 (by omega)
  have x1 : wa.drew.cell? ⟨bb, 1, none⟩ = some (.int .i64 (e 0)) := h3.c1 0 (by omega)
  have x2 : wa.drew.cell? ⟨bb, 2, none⟩ = some (.pointer (some ⟨p 1, 0, none⟩)) := h3.c0 1 (by omega)
  have x3 : wa.drew.cell? ⟨bb, 3, none⟩ = some (.int .i64 (e 1)) := h3.c1 1 (by omega)
  have h4d := h4.drew
  obtain ⟨hM1, hM2, hM3⟩ := hM.out _ _ _ _ _ _ (h3.still ((Turn.refl (fun _ => False) wa).drew)) (t1.out.trans' h4d)
  have hlb : bb < wa.drew.heap.size := h2
  have hbb : w.heap.size + 1 + 1 + 1 < bb := Nat.lt_of_lt_of_le (World.block_lt_of_cell? _ _ (two5_rb w (.bool s1) (.slice l1 n1 c1) (.int .i64 e1) (.bool s2) (.slice l2 n2 c2) (.int .i64 e2)).e0) h1
  replace hM2 := Lib.hid hM2
  replace hM3 := Lib.hid hM3
  replace h4d := Lib.hid h4d
  clear h3 h4 h1 h2
  go_region_held3 (fun wx => wx.cell? ⟨bb, 0, none⟩ = some (.pointer (some ⟨p 0, 0, none⟩)) ∧ wx.cell? ⟨bb, 1, none⟩ = some (.int .i64 (e 0)) ∧ wx.cell? ⟨bb, 2, none⟩ = some (.pointer (some ⟨p 1, 0, none⟩)) ∧ wx.cell? ⟨bb, 3, none⟩ = some (.int .i64 (e 1)))
    (first | (refine ⟨?_, ?_, ?_, ?_⟩ <;> with_reducible assumption) | (refine ⟨?_, ?_, ?_, ?_⟩ <;> (with_reducible refine cell_three ?_ (by assumption); dsimp only; omega)) | (refine ⟨?_, ?_, ?_, ?_⟩ <;> (with_reducible refine cell_one ?_ (cell_three ?_ (by assumption)) <;> (dsimp only; omega))))
    (first
      | (go_at_call 95; ((with_reducible refine hM1.mono ?_)); rintro en wb ⟨q, oq, rfl, g1, g2, g3⟩
         have hT2 := hTd.out _ _ _ _ _ ((t1.out.trans' h4d.out).trans' g3) g1 hM2.out hM3.out
         have y0 := (g3.cell (p := ⟨bb, 0, none⟩) hlb id).trans x0
         have y1 := (g3.cell (p := ⟨bb, 1, none⟩) hlb id).trans x1
         have y2 := (g3.cell (p := ⟨bb, 2, none⟩) hlb id).trans x2
         have y3 := (g3.cell (p := ⟨bb, 3, none⟩) hlb id).trans x3
         have hlb2 := Nat.lt_of_lt_of_le hlb g3.size
         have h5 := Lib.hid (h4d.out.trans' g3)
         clear g1 g2 g3)
      | (go_at_call 93; ((with_reducible refine hT2.mono ?_)); rintro en wc ⟨v, rfl, k1, k2⟩
         obtain ⟨s, a', k, c', E', rfl⟩ := k1.form
         have t3 := h5.out.trans' k2
         have hq := hr.out.still t3
         obtain ⟨⟨q0, q1, q2, f0, f1, f2, -⟩, d0, d1, -⟩ := hq
         have hq := Lib.hid (hr.out.still t3)
         have ht := Lib.hid (t1.out.trans' t3)
         have z0 := (k2.cell (p := ⟨bb, 0, none⟩) hlb2 id).trans y0
         have z1 := (k2.cell (p := ⟨bb, 1, none⟩) hlb2 id).trans y1
         have z2 := (k2.cell (p := ⟨bb, 2, none⟩) hlb2 id).trans y2
         have z3 := (k2.cell (p := ⟨bb, 3, none⟩) hlb2 id).trans y3
         replace k1 := Lib.hid k1
         clear k2 t3))
  rename_i hh
  clear hh
  go_wp2_with fail
  obtain ⟨r, hz⟩ := put4 (b := w.heap.size + 1 + 1) (b' := w.heap.size + 1 + 1 + 1) (by omega) (.bool s) (.slice a' k c') (.int .i64 E') (.int .i64 0) q0 q1 q2 d0
  generalize ((((wc.setCell ⟨w.heap.size + 1 + 1, 0, none⟩ (.bool s)).setCell ⟨w.heap.size + 1 + 1, 1, none⟩ (.slice a' k c')).setCell ⟨w.heap.size + 1 + 1, 2, none⟩ (.int .i64 E')).setCell ⟨w.heap.size + 1 + 1 + 1, 0, none⟩ (.int .i64 0)) = wz at *
  obtain ⟨r0, r1, r2, r3⟩ := r
  refine leaves_cons (f := 62) (args := #[.pointer (some ⟨w.heap.size + 1 + 1 + 1, 0, none⟩)]) (by simp) (by simp [go_sem]) ?_
  refine (caught_idle _ _).mono ?_
  rintro e u' w'' ⟨rfl, rfl, rfl⟩
  have hfin := Rb.fin k1.out ht.out hq.out (by omega) hz
  simp [Leaves, settle, results, Tryz.results66, go_sem, r0, r1, r2, r3]
  exact hfin
end
end Go.Proofs.YtllapbkoildfiaaGreatFmt
