/- dyadic.told: a number's one form · dyadic.told: a number that is not 0 · dyadic.told: the walk of a number that is not 0 · dyadic.told of any number. -/
import Derived.Test.YtllapbkoildfiaaGreatFmtM17
import Derived.Handy
import Derived.ArgAppend
set_option linter.all false
namespace Go.Proofs.YtllapbkoildfiaaGreatFmt
section
open Go.RowKit
def Same2 (m e M E : Int) : Prop := (m = 0 ∧ M = 0 ∧ E = 0) ∨ ∃ t : Nat, m = M * 2 ^ t ∧ E = e + t ∧ m ≠ 0
def NewV (w : World) (v : Value) : Prop := ∀ neg a n c x, v = .agg #[.bool neg, .slice a n c, .int .i64 x] → n = 0 ∨ ∃ b, a = some ⟨b, 0, none⟩ ∧ w.heap.size ≤ b
theorem newv_agg {w : World} {s : Bool} {a : Option Addr} {k c : Nat} {E : Int} (h : k = 0 ∨ ∃ b, a = some ⟨b, 0, none⟩ ∧ w.heap.size ≤ b) : NewV w (.agg #[.bool s, .slice a k c, .int .i64 E]) := by
  intro neg a' n' c' x e
  injection e with e
  have e' := congrArg Array.toList e
  simp only [List.cons.injEq, Value.bool.injEq, Value.slice.injEq, Value.int.injEq, and_true, true_and] at e'
  obtain ⟨rfl, ⟨rfl, rfl, rfl⟩, rfl⟩ := e'
  exact h
def ToldRes (w : World) (m e : Int) (en : Ending) (w' : World) : Prop := ∃ v M E, en = .returned v ∧ Num w' v M E ∧ Same2 m e M E ∧ Turn (fun _ => False) w w' ∧ NewV w v
set_option maxRecDepth 100000 in
set_option maxHeartbeats 2000000 in
theorem told_zero (p : Nat) (o : Option (Nat × Nat)) (e : Int) (w : World) (hI : It w p o 0) :
    Calls Tryz.prog 93 #[.agg #[.pointer (some ⟨p, 0, none⟩), .int .i64 e]] w (ToldRes w 0 e) := by
  have hA : ∀ w', Turn (fun _ => False) w w' → Calls Tryz.prog 64 #[.pointer (some ⟨p, 0, none⟩)] w' fun e w'' => e = .returned (.int .i64 0) ∧ w' = w'' := fun w' t => Sign_any p o 0 w' (hI.still t)
  clear hI
  go_enter Tryz.func93, Tryz.ntmps93
  go_wp2_with (go_at_call 64; ((with_reducible refine (hA _ (((Turn.refl (fun _ => False) w).alloc _).alloc _)).mono ?_)); rintro e wa ⟨rfl, rfl⟩)
  go_returns
  exact ⟨_, 0, 0, rfl, ⟨false, none, 0, 0, fun _ => 0, rfl, ⟨rfl, .inl rfl, by omega, rfl, .inl rfl, .inl rfl, by omega, by omega, fun _ => rfl⟩⟩, .inl ⟨rfl, rfl, rfl⟩, ((Turn.refl (fun _ => False) w).alloc _).alloc _, newv_agg (.inl rfl)⟩
def zerosI (c : Nat) : Obj := .cells (Array.replicate c (.int .i64 0)) 3
theorem run_make_int (c : Nat) (hc : c ≤ 1000000000) (w : World) :
    (Instr.makeSlice 51 (.int .i64 0) (.int .i64 (c : Int))).run Tryz.prog w = .ok (.slice (some ⟨w.heap.size, 0, none⟩) 0 c) (w.alloc (zerosI c)) := by
  have i3 : (Tryz.prog.info? 3).map (fun i => (i.zero, i.size, i.bytes)) = some (some (.int .i64 0), 1, 8) := by kernel_rfl
  obtain ⟨i0, hi, hz0, hz1, hz2⟩ := info_parts i3
  have hr := run_make (P := Tryz.prog) w 51 3 i0 (.int .i64 0) (by kernel_rfl) hi hz0 .i64 .i64 (0 : Int) (c : Int) (by omega) (by omega) (by rw [hz2]; omega) (by omega)
  rw [hr, hz1]
  simp only [Int.toNat_natCast, Nat.mul_one]
  have e : madeCells (Value.int .i64 0).cells c = Array.replicate c (.int .i64 0) := by
    have : (Value.int .i64 0).cells = #[.int .i64 0] := rfl
    rw [this]
    apply Array.ext
    · simp [madeCells]
    · intro i h1 h2
      simp [madeCells, Nat.mod_one]
  rw [e]
  rfl
theorem cell_zerosI (w : World) (c i : Nat) (hi : i < c) : (w.alloc (zerosI c)).cell? ⟨w.heap.size, i, none⟩ = some (.int .i64 0) := by
  unfold zerosI
  rw [cell_made, Array.getElem?_replicate, if_pos hi]
theorem wpList_append_int (w : World) {ops : Array Oper} {rest : List Oper} {o : Oper} {a : Act} {Q : Exit → Act → World → Prop}
    (hg : o.guard = none) (s x : Operand) (hop : o.op = Op.call { callee := Callee.builtin Builtin.append, args := #[s, x], argTypes := #[51, 51] })
    (b n cap : Nat) (hs : a.eval s = .slice (some ⟨b, 0, none⟩) n cap) (ad : Addr) (c : Nat) (v : Int) (hx : a.eval x = .slice (some ad) 1 c) (hc : w.cell? ad = some (.int .i64 v))
    (hr : n + 1 ≤ cap) (hspare : (w.cell? ⟨b, n, none⟩).isSome = true) (hfz : w.frozen? ⟨b, n, none⟩ = false)
    (hroom : wpList Tryz.prog ops Q rest (a.put o.dst (.slice (some ⟨b, 0, none⟩) (n + 1) cap)) (w.setCells b n [.int .i64 v])) :
    wpList Tryz.prog ops Q (o :: rest) a w := by
  have i3 : (Tryz.prog.info? 3).map (fun i => (i.zero, i.size, i.bytes)) = some (some (.int .i64 0), 1, 8) := by kernel_rfl
  obtain ⟨i0, hi, hz0, hz1, hz2⟩ := info_parts i3
  refine wpList_plain hg fun K hK' => ?_
  have hrun := run_append_room_cells (P := Tryz.prog) w 51 o.type 3 i0 (by kernel_rfl) hi b 0 n cap ad 1 c [.int .i64 v] (by rw [hz1]; rfl) (fun j u hj => by
    rcases j with _ | j
    · have e : Value.int .i64 v = u := by simpa using hj
      subst e
      exact hc
    · simp at hj) (by intro u hu; simp at hu; subst hu; rfl) hr (fun j hj => by
      obtain rfl : j = 0 := by simpa using hj
      rw [hz1]; simpa using hspare) (fun j hj => by
      obtain rfl : j = 0 := by simpa using hj
      rw [hz1]; simpa using hfz)
  rw [hz1, Nat.zero_add, Nat.mul_one] at hrun
  unfold Oper.wp
  simp [execOp, hop, resolve, invoke, builtin, hs, hx, hrun, Result.andThen]
  exact hK' _ _ hroom
theorem frozen_zerosI (w : World) (c i : Nat) : (w.alloc (zerosI c)).frozen? ⟨w.heap.size, i, none⟩ = false := frozen_made _ _ _ _
end
section
open Go.RowKit
theorem IB_none {p k : Nat} (h : IB p none k) : k = p := by
  rcases h with h | ⟨c, h⟩
  · exact h
  · cases h
theorem Far.made {w : World} {p q : Nat} {o : Option (Nat × Nat)} {x : Int} (h : It w p o x) (hq : w.heap.size ≤ q) : Far q none p o := by
  rintro k (rfl | ⟨c, e⟩) g
  · have := h.lt g
    omega
  · cases e
theorem tz_lt {x t : Nat} (h : ∃ q, x = 2 ^ t * (2 * q + 1)) (hb : bl x ≤ 60000) : t < 60000 := by
  obtain ⟨q, rfl⟩ := h
  have := le_bl (x := 2 ^ t * (2 * q + 1)) (k := t) (Nat.le_mul_of_pos_right _ (by omega))
  omega
theorem odd_of {x t : Nat} (h : ∃ q, x = 2 ^ t * (2 * q + 1)) (hb : bl x ≤ 60000) : ∃ M, x / 2 ^ t = M ∧ x = 2 ^ t * M ∧ M % 2 = 1 ∧ bl M ≤ 60000 := by
  obtain ⟨q, rfl⟩ := h
  refine ⟨2 * q + 1, Nat.mul_div_cancel_left _ (Nat.pow_pos (by omega)), rfl, by omega, ?_⟩
  set_option exponentiation.threshold 100000 in refine bl_le (Nat.lt_of_lt_of_le ?_ (Nat.pow_le_pow_right (by omega) hb))
  exact Nat.lt_of_le_of_lt (Nat.le_mul_of_pos_left _ (Nat.pow_pos (by omega))) bl_lt
theorem sgn_eq0 {m : Int} (h : m ≠ 0) : (sgn m == 0) = false := by
  unfold sgn
  by_cases h1 : m < 0
  · rw [if_pos h1]; rfl
  · rw [if_neg h1, if_neg h]; rfl
structure TW (w wx : World) (p : Nat) (e : Int) : Prop where
  x0 : wx.cell? ⟨w.heap.size, 0, none⟩ = some (.pointer (some ⟨p, 0, none⟩))
  x1 : wx.cell? ⟨w.heap.size, 1, none⟩ = some (.int .i64 e)
  r0 : wx.cell? ⟨w.heap.size + 1, 0, none⟩ = some (.bool false)
  r1 : wx.cell? ⟨w.heap.size + 1, 1, none⟩ = some (.slice none 0 0)
  r2 : wx.cell? ⟨w.heap.size + 1, 2, none⟩ = some (.int .i64 0)
  f0 : wx.frozen? ⟨w.heap.size + 1, 0, none⟩ = false
  f1 : wx.frozen? ⟨w.heap.size + 1, 1, none⟩ = false
  f2 : wx.frozen? ⟨w.heap.size + 1, 2, none⟩ = false
  turn : Turn (fun _ => False) w wx
theorem TW.more {w wx wy : World} {p : Nat} {e : Int} (h : TW w wx p e) {S : Nat → Prop} (t : Turn S wx wy) (hS : ∀ k, S k → w.heap.size + 1 < k) (hl : w.heap.size + 1 < wx.heap.size) : TW w wy p e := by
  have n0 : ¬ S w.heap.size := fun g => by have := hS _ g; omega
  have n1 : ¬ S (w.heap.size + 1) := fun g => by have := hS _ g; omega
  have l0 : w.heap.size < wx.heap.size := by omega
  exact ⟨(t.cell (p := ⟨w.heap.size, 0, none⟩) l0 n0).trans h.x0, (t.cell (p := ⟨w.heap.size, 1, none⟩) l0 n0).trans h.x1,
    (t.cell (p := ⟨w.heap.size + 1, 0, none⟩) hl n1).trans h.r0, (t.cell (p := ⟨w.heap.size + 1, 1, none⟩) hl n1).trans h.r1, (t.cell (p := ⟨w.heap.size + 1, 2, none⟩) hl n1).trans h.r2,
    (t.frozen (p := ⟨w.heap.size + 1, 0, none⟩) hl n1).trans h.f0, (t.frozen (p := ⟨w.heap.size + 1, 1, none⟩) hl n1).trans h.f1, (t.frozen (p := ⟨w.heap.size + 1, 2, none⟩) hl n1).trans h.f2,
    h.turn.trans t fun k hk g => by have := hS k g; omega⟩
theorem TW.made (w : World) (p : Nat) (e : Int) : TW w ((w.alloc (.cells #[.pointer (some ⟨p, 0, none⟩), .int .i64 e] 97)).alloc (.cells #[.bool false, .slice none 0 0, .int .i64 0] 53)) p e := by
  have hs := size_alloc w (.cells #[.pointer (some ⟨p, 0, none⟩), .int .i64 e] 97)
  have t := (Turn.refl (fun _ => False) (w.alloc (.cells #[.pointer (some ⟨p, 0, none⟩), .int .i64 e] 97))).alloc (.cells #[.bool false, .slice none 0 0, .int .i64 0] 53)
  have l0 : w.heap.size < (w.alloc (.cells #[.pointer (some ⟨p, 0, none⟩), .int .i64 e] 97)).heap.size := by rw [hs]; omega
  refine ⟨(t.cell (p := ⟨w.heap.size, 0, none⟩) l0 id).trans (cell_made _ _ _ 0), (t.cell (p := ⟨w.heap.size, 1, none⟩) l0 id).trans (cell_made _ _ _ 1), ?_, ?_, ?_, ?_, ?_, ?_, ((Turn.refl (fun _ => False) w).alloc _).alloc _⟩ <;> rw [← hs]
  · exact cell_made _ _ _ 0
  · exact cell_made _ _ _ 1
  · exact cell_made _ _ _ 2
  · exact frozen_made _ _ _ 0
  · exact frozen_made _ _ _ 1
  · exact frozen_made _ _ _ 2
theorem Tab.still {w w' : World} (h : Tab w) (t : Turn (fun _ => False) w w') : Tab w' := fun k hk =>
  (t.cell (p := ⟨7, k, none⟩) (World.block_lt_of_cell? w _ (h k hk)) id).trans (h k hk)
structure TV (w wx : World) (p : Nat) (e : Int) : Prop where
  tw : TW w wx p e
  i1 : It wx (w.heap.size + 1 + 1) none 0
  i2 : It wx (w.heap.size + 1 + 1 + 1) none 0
  sz : w.heap.size + 1 + 1 + 1 < wx.heap.size
theorem TV.made (w : World) (p : Nat) (e : Int) : TV w ((((w.alloc (.cells #[.pointer (some ⟨p, 0, none⟩), .int .i64 e] 97)).alloc (.cells #[.bool false, .slice none 0 0, .int .i64 0] 53)).alloc (.cells #[.bool false, .slice none 0 0] 128)).alloc (.cells #[.bool false, .slice none 0 0] 128)) p e := by
  have h := TW.made w p e
  have s2 : ((w.alloc (.cells #[.pointer (some ⟨p, 0, none⟩), .int .i64 e] 97)).alloc (.cells #[.bool false, .slice none 0 0, .int .i64 0] 53)).heap.size = w.heap.size + 1 + 1 := by rw [size_alloc, size_alloc]
  generalize (w.alloc (.cells #[.pointer (some ⟨p, 0, none⟩), .int .i64 e] 97)).alloc (.cells #[.bool false, .slice none 0 0, .int .i64 0] 53) = w2 at h s2 ⊢
  have i1 := It.made w2
  have s3 := size_alloc w2 (.cells #[.bool false, .slice none 0 0] 128)
  have i2 := It.made (w2.alloc (.cells #[.bool false, .slice none 0 0] 128))
  rw [s2] at s3 i1
  rw [s3] at i2
  exact ⟨h.more (((Turn.refl (fun _ => False) w2).alloc _).alloc _) (fun _ g => g.elim) (by omega), i1.still ((Turn.refl (fun _ => False) _).alloc _), i2, by rw [size_alloc, s3]; omega⟩
structure TL (w : World) (p : Nat) (e : Int) (q1 db C p3 : Nat) (o3 : Option (Nat × Nat)) (M k : Nat) (wr : World) : Prop where
  tw : TW w wr p e
  it : ∃ o1, It wr q1 o1 ((M / 1073741824 ^ k : Nat) : Int) ∧ ∀ kk, IB q1 o1 kk → w.heap.size + 1 < kk ∧ kk ≠ db ∧ ¬ IB p3 o3 kk
  msk : It wr p3 o3 ((1073741823 : Nat) : Int)
  m3 : ∀ kk, IB p3 o3 kk → w.heap.size + 1 < kk ∧ kk ≠ db
  d0 : w.heap.size + 1 < db
  lt : db < wr.heap.size
  dg : ∀ i, i < k → wr.cell? ⟨db, i, none⟩ = some (.int .i64 ((M / 1073741824 ^ i % 1073741824 : Nat) : Int))
  rest : ∀ i, k ≤ i → i < C → wr.cell? ⟨db, i, none⟩ = some (.int .i64 0)
  fz : ∀ i, wr.frozen? ⟨db, i, none⟩ = false
theorem TL.start {w wa wb wd : World} {p : Nat} {e : Int} {q1 C p3 : Nat} {o1 o3 : Option (Nat × Nat)} {M : Nat} (h : TW w wb p e) (hI : It wb q1 o1 (M : Nat)) (hO : Own wa none o1) (ha : w.heap.size + 1 < wa.heap.size) (hq : w.heap.size + 1 < q1)
    (h3 : It wd p3 o3 ((1073741823 : Nat) : Int)) (hn : New (wb.alloc (zerosI C)) p3 o3) (ht : Turn (fun _ => False) (wb.alloc (zerosI C)) wd) : TL w p e q1 wb.heap.size C p3 o3 M 0 wd := by
  have s1 := size_alloc wb (zerosI C)
  have hlt := fun kk g => hI.lt (k := kk) g
  have hq1 := hI.pl.lt
  have t2 : Turn (fun _ => False) wb wd := ((Turn.refl (fun _ => False) wb).alloc _).trans' ht
  have hl : wb.heap.size < (wb.alloc (zerosI C)).heap.size := by omega
  refine ⟨h.more t2 (fun _ g => g.elim) (by omega), ⟨o1, ?_, fun kk g => ⟨?_, ?_, fun g2 => ?_⟩⟩, h3, fun kk g => ?_, by omega, Nat.lt_of_lt_of_le hl ht.size, fun i hi => absurd hi (Nat.not_lt_zero _), fun i _ hi => ?_, fun i => ?_⟩
  · rw [Nat.pow_zero, Nat.div_one]; exact hI.still t2
  · rcases g with rfl | ⟨c, g⟩
    · exact hq
    · rcases hO _ _ g with ⟨_, g3⟩ | g3
      · cases g3
      · omega
  · have := hlt kk g; omega
  · have := hlt kk g
    have := hn kk g2
    omega
  · have := hn kk g
    omega
  · exact (ht.cell (p := ⟨wb.heap.size, i, none⟩) hl id).trans (cell_zerosI wb C i hi)
  · exact (ht.frozen (p := ⟨wb.heap.size, i, none⟩) hl id).trans (frozen_zerosI wb C i)
theorem TL.more {w wr wy : World} {p : Nat} {e : Int} {q1 db C p3 : Nat} {o3 : Option (Nat × Nat)} {M k : Nat} (h : TL w p e q1 db C p3 o3 M k wr) {S : Nat → Prop} (t : Turn S wr wy) (hS : ∀ kk, S kk → wr.heap.size ≤ kk) : TL w p e q1 db C p3 o3 M k wy := by
  have hl := h.lt
  have hd := h.d0
  have n : ∀ kk, kk < wr.heap.size → ¬ S kk := fun kk h1 h2 => by have := hS kk h2; omega
  obtain ⟨o1, hI, hs⟩ := h.it
  exact ⟨h.tw.more t (fun kk g => by have := hS kk g; omega) (by omega), ⟨o1, hI.turn t fun kk g => n kk (hI.lt g), hs⟩, h.msk.turn t fun kk g => n kk (h.msk.lt g), h.m3, h.d0, Nat.lt_of_lt_of_le h.lt t.size,
    fun i hi => (t.cell (p := ⟨db, i, none⟩) hl (n _ hl)).trans (h.dg i hi), fun i h1 h2 => (t.cell (p := ⟨db, i, none⟩) hl (n _ hl)).trans (h.rest i h1 h2), fun i => (t.frozen (p := ⟨db, i, none⟩) hl (n _ hl)).trans (h.fz i)⟩
theorem TL.step {w wr w3 : World} {p : Nat} {e : Int} {q1 db C p3 : Nat} {o1 o3 : Option (Nat × Nat)} {M k : Nat} {en : Ending} (h : TL w p e q1 db C p3 o3 M k wr) (hk : k < C)
    (hs : ∀ kk, IB q1 o1 kk → w.heap.size + 1 < kk ∧ kk ≠ db ∧ ¬ IB p3 o3 kk)
    (hres : IRes (wr.setCell ⟨db, k, none⟩ (.int .i64 ((M / 1073741824 ^ k % 1073741824 : Nat) : Int))) q1 o1 ((M / 1073741824 ^ k / 1073741824 : Nat) : Int) en w3) : TL w p e q1 db C p3 o3 M (k + 1) w3 := by
  obtain ⟨_, o2, hI, hO, ht⟩ := hres
  have hl := h.lt
  have hd := h.d0
  have t1 : Turn (fun x => x = db) wr (wr.setCell ⟨db, k, none⟩ (.int .i64 ((M / 1073741824 ^ k % 1073741824 : Nat) : Int))) := (Turn.refl (fun x => x = db) wr).setCell (p := ⟨db, k, none⟩) (fun _ => rfl) _
  have hl2 : db < (wr.setCell ⟨db, k, none⟩ (.int .i64 ((M / 1073741824 ^ k % 1073741824 : Nat) : Int))).heap.size := Nat.lt_of_lt_of_le hl t1.size
  have hnb : ¬ IB q1 o1 db := fun g => (hs db g).2.1 rfl
  have hc := h.rest k (Nat.le_refl _) hk
  have tw1 := h.tw.more t1 (fun kk g => by omega) (by omega)
  refine ⟨tw1.more ht (fun kk g => (hs kk g).1) (by omega), ⟨o2, ?_, fun kk g => ?_⟩, ?_, h.m3, h.d0, Nat.lt_of_lt_of_le hl2 ht.size, fun i hi => ?_, fun i h1 h2 => ?_, fun i => ?_⟩
  · rw [Nat.pow_succ, ← Nat.div_div_eq_div_mul]; exact hI
  · rcases g with rfl | ⟨c, g⟩
    · exact hs _ (.inl rfl)
    · rcases hO _ _ g with g3 | g3
      · exact hs _ (.inr g3)
      · have := t1.size
        exact ⟨by omega, by omega, fun g4 => by have := h.msk.lt g4; omega⟩
  · exact (h.msk.turn t1 fun kk g => (h.m3 kk g).2).turn ht fun kk g g2 => (hs kk g2).2.2 g
  · rw [ht.cell (p := ⟨db, i, none⟩) hl2 hnb]
    by_cases hik : i = k
    · subst hik
      exact World.cell?_setCell_same _ _ _ hc
    · exact (World.cell?_setCell_other _ _ _ _ (by intro e; have := (Addr.mk.inj e).2.1; omega)).trans (h.dg i (by omega))
  · rw [ht.cell (p := ⟨db, i, none⟩) hl2 hnb]
    exact (World.cell?_setCell_other _ _ _ _ (by intro e; have := (Addr.mk.inj e).2.1; omega)).trans (h.rest i (by omega) h2)
  · rw [ht.frozen (p := ⟨db, i, none⟩) hl2 hnb, World.frozen?_setCell]; exact h.fz i
end
section
open Go.RowKit
theorem set3 {w : World} {b : Nat} {u0 u1 u2 : Value} (v0 v1 v2 : Value) (r0 : w.cell? ⟨b, 0, none⟩ = some u0) (r1 : w.cell? ⟨b, 1, none⟩ = some u1) (r2 : w.cell? ⟨b, 2, none⟩ = some u2) :
    (((w.setCell ⟨b, 0, none⟩ v0).setCell ⟨b, 1, none⟩ v1).setCell ⟨b, 2, none⟩ v2).cell? ⟨b, 0, none⟩ = some v0 ∧
    (((w.setCell ⟨b, 0, none⟩ v0).setCell ⟨b, 1, none⟩ v1).setCell ⟨b, 2, none⟩ v2).cell? ⟨b, 1, none⟩ = some v1 ∧
    (((w.setCell ⟨b, 0, none⟩ v0).setCell ⟨b, 1, none⟩ v1).setCell ⟨b, 2, none⟩ v2).cell? ⟨b, 2, none⟩ = some v2 := by
  refine ⟨?_, ?_, ?_⟩
  · rw [World.cell?_setCell_other _ _ _ _ (by intro e; simp at e), World.cell?_setCell_other _ _ _ _ (by intro e; simp at e)]
    exact World.cell?_setCell_same _ _ _ r0
  · rw [World.cell?_setCell_other _ _ _ _ (by intro e; simp at e)]
    exact World.cell?_setCell_same _ _ _ ((World.cell?_setCell_other _ _ _ _ (by intro e; simp at e)).trans r1)
  · exact World.cell?_setCell_same _ _ _ ((World.cell?_setCell_other _ _ _ _ (by intro e; simp at e)).trans ((World.cell?_setCell_other _ _ _ _ (by intro e; simp at e)).trans r2))
theorem dv_digits (M : Nat) : ∀ k, dv (fun i => M / 1073741824 ^ i % 1073741824) k = M % 1073741824 ^ k := by
  intro k
  induction k with
  | zero => simp [dv, Nat.mod_one]
  | succ k ih => rw [dv, ih, Nat.pow_succ, Nat.mod_mul, Nat.mul_comm (1073741824 ^ k)]
theorem sgn_lt {m : Int} : decide (sgn m < 0) = decide (m < 0) := by
  unfold sgn
  by_cases h : m < 0
  · rw [if_pos h, decide_eq_true h]; rfl
  · rw [if_neg h, decide_eq_false h]
    split <;> rfl
theorem TL.done {w wr w9 : World} {p : Nat} {e m : Int} {q1 db C p3 : Nat} {o3 : Option (Nat × Nat)} {M k t : Nat} (h : TL w p e q1 db C p3 o3 M k wr) (hT : Turn (fun x => x = w.heap.size + 1) wr w9) (hk0 : k = 0 ∨ M / 1073741824 ^ (k - 1) ≠ 0) (hx : M / 1073741824 ^ k = 0)
    (hM3 : M % 2 = 1) (hM4 : bl M ≤ 60000) (hM2 : m.natAbs = 2 ^ t * M) (hm : m ≠ 0) (he1 : -1048576 ≤ e) (hE : e + (t : Int) ≤ 1048576) :
    ToldRes w m e (.returned (.agg #[.bool (decide (sgn m < 0)), .slice (some ⟨db, 0, none⟩) k C, .int .i64 (e + (t : Int))])) w9 := by
  have hk : k ≠ 0 := by
    rintro rfl
    rw [Nat.pow_zero, Nat.div_one] at hx
    omega
  have h1 := hk0.resolve_left hk
  have hlt : M < 1073741824 ^ k := by
    rcases Nat.lt_or_ge M (1073741824 ^ k) with g | g
    · exact g
    · have := Nat.div_pos g (Nat.pow_pos (by omega)); omega
  have hge : 1073741824 ^ (k - 1) ≤ M := by
    rcases Nat.lt_or_ge M (1073741824 ^ (k - 1)) with g | g
    · exact absurd (Nat.div_eq_of_lt g) h1
    · exact g
  have hk2 : k ≤ 2000 := by
    have e2 : 2 ^ (30 * (k - 1)) ≤ M := by rw [Nat.pow_mul]; exact hge
    have := le_bl e2
    omega
  have hv : dv (fun i => M / 1073741824 ^ i % 1073741824) k = M := by rw [dv_digits, Nat.mod_eq_of_lt hlt]
  have hl := h.lt
  have hd := h.d0
  have hM0 : (0 : Int) < 2 ^ t := Int.pow_pos (by omega)
  have hc : ((2 ^ t * M : Nat) : Int) = (M : Int) * 2 ^ t := by rw [Int.natCast_mul, Int.natCast_pow, Int.mul_comm]; rfl
  set_option exponentiation.threshold 100000 in have hML : M < 2 ^ 60000 := Nat.lt_of_lt_of_le bl_lt (Nat.pow_le_pow_right (by decide) hM4)
  clear hML
  refine ⟨_, if m < 0 then -(M : Int) else (M : Int), e + (t : Int), rfl, ⟨decide (sgn m < 0), some ⟨db, 0, none⟩, k, C, fun i => M / 1073741824 ^ i % 1073741824, rfl, ⟨?_, .inr ⟨db, 0, rfl, fun i hi => ⟨?_, Nat.mod_lt _ (by omega)⟩⟩, hk2, ?_, .inr ?_, .inr ?_, by omega, hE, fun g => absurd g hk⟩⟩, .inr ⟨t, ?_, rfl, hm⟩, (h.tw.turn.trans hT fun kk g1 g2 => by (have g3 : kk = w.heap.size + 1 := g2; omega)), newv_agg (.inr ⟨db, rfl, by omega⟩)⟩
  · rw [sgn_lt]
    by_cases g : m < 0
    · rw [if_pos g, decide_eq_true g, decide_eq_true (show -(M : Int) < 0 by omega)]
    · rw [if_neg g, decide_eq_false g, decide_eq_false (show ¬ (M : Int) < 0 by omega)]
  · rw [Nat.zero_add]
    exact (hT.cell (p := ⟨db, i, none⟩) hl (fun g2 => by have g3 : db = w.heap.size + 1 := g2; omega)).trans (h.dg i hi)
  · rw [hv]; split <;> omega
  · show M / 1073741824 ^ (k - 1) % 1073741824 ≠ 0
    have e3 : M / 1073741824 ^ (k - 1) / 1073741824 = 0 := by
      rw [Nat.div_div_eq_div_mul, ← Nat.pow_succ, show (k - 1).succ = k from by omega]; exact hx
    omega
  · show M / 1073741824 ^ 0 % 1073741824 % 2 = 1
    rw [Nat.pow_zero, Nat.div_one]; omega
  · by_cases g : m < 0
    · rw [if_pos g, Int.neg_mul, ← hc, ← hM2]; omega
    · rw [if_neg g, ← hc, ← hM2]; omega
set_option maxRecDepth 100000 in
set_option maxHeartbeats 4000000 in
theorem told_some (p : Nat) (o : Option (Nat × Nat)) (m e : Int) (w : World) (hI : It w p o m) (hm : m ≠ 0) (hb : bl m.natAbs ≤ 60000) (he1 : -1048576 ≤ e) (he2 : ∀ t q : Nat, m.natAbs = 2 ^ t * (2 * q + 1) → e + t ≤ 1048576) (hT : Tab w) :
    Calls Tryz.prog 93 #[.agg #[.pointer (some ⟨p, 0, none⟩), .int .i64 e]] w (ToldRes w m e) := by
  have hS : ∀ w', Turn (fun _ => False) w w' → Calls Tryz.prog 64 #[.pointer (some ⟨p, 0, none⟩)] w' fun e w'' => e = .returned (.int .i64 (sgn m)) ∧ w' = w'' := fun w' t => Sign_any p o m w' (hI.still t)
  have hZ : ∀ w', Turn (fun _ => False) w w' → Tab w' → Calls Tryz.prog 128 #[.pointer (some ⟨p, 0, none⟩)] w' fun e w'' => ∃ t : Nat, e = .returned (.int .u64 (t : Nat)) ∧ Hid (∃ q, m.natAbs = 2 ^ t * (2 * q + 1)) ∧ t < 6400000 ∧ w' = w'' := fun w' t h => TZB_any p o m w' (hI.still t) (by omega) hm h
  have s0 := sgn_eq0 hm
  have t1 : Turn (fun _ => False) w ((w.alloc (.cells #[.pointer (some ⟨p, 0, none⟩), .int .i64 e] 97)).alloc (.cells #[.bool false, .slice none 0 0, .int .i64 0] 53)) := ((Turn.refl (fun _ => False) w).alloc _).alloc _
  have hT1 : Tab ((w.alloc (.cells #[.pointer (some ⟨p, 0, none⟩), .int .i64 e] 97)).alloc (.cells #[.bool false, .slice none 0 0, .int .i64 0] 53))  := hT.still t1
  have hpl := hI.pl.lt
  replace hI := Lib.hid hI
  replace hm := Lib.hid hm
  replace he2 := Lib.hid he2
  replace hT := Lib.hid hT
  replace t1 := Lib.hid t1
  replace hT1 := Lib.hid hT1
  go_enter Tryz.func93, Tryz.ntmps93
  go_wp2_with (first
    | (go_at_call 64; ((with_reducible refine (hS _ t1.out).mono ?_)); rintro e wa ⟨rfl, rfl⟩)
    | (go_at_call 128; ((with_reducible refine (hZ _ t1.out hT1.out).mono ?_)); rintro e wa ⟨t, rfl, hq, ht0, rfl⟩; have ht := tz_lt hq.out hb; have hE : e + (t : Int) ≤ 1048576 := hq.out.elim fun q h => he2.out t q h; have we : IntKind.i64.wrap (e + (t : Int)) = e + (t : Int) := IntWalk.i64_in _ (by omega); have wt : IntKind.wrap .i64 (t : Int) = t := by (rw [IntKind.wrap_i64]; omega))
    | (go_at_call 130
       have F := TV.made w p e
       generalize World.alloc (World.alloc (World.alloc (World.alloc w _) _) _) _ = wx at F ⊢
       have hA := Abs_far (w.heap.size + 1 + 1 + 1) none 0 p o m wx F.i2 (hI.out.still F.tw.turn) (fun k g1 g2 => by
         have := hI.out.lt g2
         rcases g1 with rfl | ⟨c, g1⟩
         · omega
         · cases g1) (by omega)
       ((with_reducible refine hA.mono ?_))
       rintro en wa ⟨rfl, o2, hI2, hO2, hT2⟩
       have hTW := F.tw.more hT2 (fun k g => by (have := IB_none g; omega)) (by have := F.sz; omega)
       have hI1 := F.i1.turn hT2 (fun k g1 g2 => by
         rcases g1 with rfl | ⟨c, g1⟩
         · rcases g2 with g2 | ⟨c, g2⟩
           · omega
           · cases g2
         · cases g1)
       have hfar : Far (w.heap.size + 1 + 1) none (w.heap.size + 1 + 1 + 1) o2 := fun k g1 g2 => by
         rcases g1 with rfl | ⟨c, g1⟩
         · rcases g2 with g2 | ⟨c, g2⟩
           · omega
           · rcases hO2 _ _ g2 with ⟨_, g3⟩ | g3
             · cases g3
             · have := F.sz
               omega
         · cases g1
       have hB := Rsh_any (w.heap.size + 1 + 1) none 0 (w.heap.size + 1 + 1 + 1) o2 m.natAbs t wa hI1 hI2 (.inr hfar) (by omega) (by omega) (fun _ => rfl)
       have hsz : w.heap.size + 1 + 1 < wa.heap.size := by have := hI1.pl.lt; omega
       have wu : IntKind.wrap .u64 (t : Int) = t := by (rw [IntKind.wrap_u64]; omega)
       replace hTW := Lib.hid hTW
       clear hI2 hT2 hA hI1 hfar F hO2)
    | (go_at_call 129
       ((with_reducible refine hB.mono ?_))
       rintro en wb ⟨rfl, o1, hI1, hO1, hT1⟩
       have hTW2 := hTW.out.more hT1 (fun k g => by (have := IB_none g; omega)) (by omega)
       have x1 := hTW2.x1
       replace hTW2 := Lib.hid hTW2
       obtain ⟨M, hM1, hM2, hM3, hM4⟩ := odd_of hq.out hb
       rw [hM1] at hI1
       have hL := BitLen_any _ _ _ wb hI1 (by rw [Int.natAbs_natCast]; omega)
       rw [Int.natAbs_natCast] at hL
       have hM5 : ¬ (60000 : Int) < ((bl M : Nat) : Int) := by omega
       have hM6 : ¬ e + (t : Int) < -1048576 := by omega
       have hM7 : ¬ 1048576 < e + (t : Int) := by omega
       have hmk := run_make_int (bl M / 30 + 1) (by omega) wb
       rw [show ((bl M / 30 + 1 : Nat) : Int) = ((bl M : Nat) : Int) / 30 + 1 from by omega] at hmk
       replace hO1 := Lib.hid hO1
       replace hI1 := Lib.hid hI1
       replace hM1 := Lib.hid hM1
       replace hM2 := Lib.hid hM2
       replace hM3 := Lib.hid hM3
       clear hB hT1)
    | (go_at_call 131
       ((with_reducible refine hL.mono ?_))
       rintro en wc ⟨rfl, rfl⟩)
    | (go_at_call 126
       have hN : Calls Tryz.prog 126 #[.int .i64 1073741823] _ _ := NewInt_any ((1073741823 : Nat) : Int) (by decide) (wb.alloc (zerosI (bl M / 30 + 1)))
       ((with_reducible refine hN.mono ?_))
       rintro en wd ⟨p3, o3, rfl, hI3, hN3, hT3⟩
       have hst := Lib.hid (TL.start hTW2.out hI1.out hO1.out (by omega) (by omega) hI3 hN3 hT3)
       clear hI3 hN3 hT3 hN))
  go_loopw [6] (fun v6 wr => ∃ k : Nat, v6 = .slice (some ⟨wb.heap.size, 0, none⟩) k (bl M / 30 + 1) ∧ TL w p e (w.heap.size + 1 + 1) wb.heap.size (bl M / 30 + 1) p3 o3 M k wr ∧ (k = 0 ∨ M / 1073741824 ^ (k - 1) ≠ 0)) (fun v6 _ => (bl M / 30 + 1) - (match v6 with | .slice _ n _ => n | _ => 0))
  case atStart => exact ⟨0, rfl, hst.out, .inl rfl⟩
  case round =>
    obtain ⟨k, rfl, hrel, hk0⟩ := hrel
    replace hk0 := Lib.hid hk0
    obtain ⟨o1, hX, hsep⟩ := hrel.it
    have hM4 : bl M ≤ 60000 := by omega
    have hlt : M / 1073741824 ^ k ≤ M := Nat.div_le_self _ _
    set_option exponentiation.threshold 100000 in have hbX : bl (M / 1073741824 ^ k) ≤ 60000 := bl_le (Nat.lt_of_le_of_lt hlt (Nat.lt_of_lt_of_le bl_lt (Nat.pow_le_pow_right (by omega) hM4)))
    generalize hXd : M / 1073741824 ^ k = X at *
    by_cases hx0 : X = 0
    · subst hx0
      have hA := Sign_any _ _ _ wr hX
      rw [show sgn ((0 : Nat) : Int) = 0 from rfl] at hA
      have hP := hS wr hrel.tw.turn
      have r0 := hrel.tw.r0
      have r1 := hrel.tw.r1
      have r2 := hrel.tw.r2
      have f0 := hrel.tw.f0
      have f1 := hrel.tw.f1
      have f2 := hrel.tw.f2
      have x0 := hrel.tw.x0
      replace hrel := Lib.hid hrel
      replace hsep := Lib.hid hsep
      replace hX := Lib.hid hX
      replace hXd := Lib.hid hXd
      go_wp2_with (first
        | (go_at_call 64; ((with_reducible refine hA.mono ?_)); rintro en we ⟨rfl, rfl⟩)
        | (go_at_call 64; ((with_reducible refine hP.mono ?_)); rintro en we ⟨rfl, rfl⟩))
      have hq := set3 (.bool (decide (sgn m < 0))) (.slice (some ⟨wb.heap.size, 0, none⟩) k (bl M / 30 + 1)) (.int .i64 (e + (t : Int))) r0 r1 r2
      have hT9 : Turn (fun x => x = w.heap.size + 1) wr (((wr.setCell ⟨w.heap.size + 1, 0, none⟩ (.bool (decide (sgn m < 0)))).setCell ⟨w.heap.size + 1, 1, none⟩ (.slice (some ⟨wb.heap.size, 0, none⟩) k (bl M / 30 + 1))).setCell ⟨w.heap.size + 1, 2, none⟩ (.int .i64 (e + (t : Int)))) := (((Turn.refl (fun x => x = w.heap.size + 1) wr).setCell (p := ⟨w.heap.size + 1, 0, none⟩) (fun _ => rfl) _).setCell (p := ⟨w.heap.size + 1, 1, none⟩) (fun _ => rfl) _).setCell (p := ⟨w.heap.size + 1, 2, none⟩) (fun _ => rfl) _
      generalize ((wr.setCell ⟨w.heap.size + 1, 0, none⟩ (.bool (decide (sgn m < 0)))).setCell ⟨w.heap.size + 1, 1, none⟩ (.slice (some ⟨wb.heap.size, 0, none⟩) k (bl M / 30 + 1))).setCell ⟨w.heap.size + 1, 2, none⟩ (.int .i64 (e + (t : Int))) = w9 at hq hT9 ⊢
      obtain ⟨q0, q1, q2⟩ := hq
      replace hT9 := Lib.hid hT9
      refine bodyPost_ret (v := .agg #[.bool (decide (sgn m < 0)), .slice (some ⟨wb.heap.size, 0, none⟩) k (bl M / 30 + 1), .int .i64 (e + (t : Int))]) (by simp [results, Tryz.results93, go_sem, q0, q1, q2]) rfl ?_
      exact hrel.out.done hT9.out hk0.out hXd.out hM3.out hM4 hM2.out hm.out he1 hE
    · have hA := Sign_any _ _ _ wr hX
      rw [show sgn ((X : Nat) : Int) = 1 from by unfold sgn; rw [if_neg (by omega), if_neg (by omega)]] at hA
      have t1 : Turn (fun _ => False) wr (wr.alloc (.cells #[.bool false, .slice none 0 0] 128)) := (Turn.refl (fun _ => False) wr).alloc _
      have hB := And_low wr.heap.size (w.heap.size + 1 + 1) o1 X p3 o3 _ (It.made wr) (hX.still t1) (hrel.msk.still t1) hx0 (by omega)
      have hC := fun o4 wa h => Int64_nat wr.heap.size o4 (X % 1073741824) wa h (Nat.mod_lt _ (by omega))
      have hkC : k < bl M / 30 + 1 := by
        have h1 : 2 ^ (30 * k) ≤ M := by
          have h2 : 1073741824 ^ k ≤ M := by
            rcases Nat.lt_or_ge M (1073741824 ^ k) with g | g
            · rw [Nat.div_eq_of_lt g] at hXd; omega
            · exact g
          rw [Nat.pow_mul]; exact h2
        have h3 := le_bl h1
        omega
      have hkC2 : k + 1 ≤ bl M / 30 + 1 := hkC
      generalize hvd : X % 1073741824 = v at *
      have hsz := size_alloc wr (.cells #[.bool false, .slice none 0 0] 128)
      replace hrel := Lib.hid hrel
      replace hsep := Lib.hid hsep
      replace t1 := Lib.hid t1
      replace hX := Lib.hid hX
      replace hXd := Lib.hid hXd
      replace hvd := Lib.hid hvd
      replace hsz := Lib.hid hsz
      go_wp2_with (first
        | (go_at_call 64; ((with_reducible refine hA.mono ?_)); rintro en we ⟨rfl, rfl⟩)
        | (go_at_call 132
           go_loud (
             ((with_reducible refine hB.mono ?_))
             rintro en wa ⟨rfl, o4, h41, h42, h43⟩
             have hC4 := hC o4 wa h41
             have hR : TL w p e (w.heap.size + 1 + 1) wb.heap.size (bl M / 30 + 1) p3 o3 M k wa := hrel.out.more ((t1.out.mono (S' := IB wr.heap.size none) (fun _ _ g => g.elim)).trans' h43) (fun kk g => by (have := IB_none g; omega))
             have hXa : It wa (w.heap.size + 1 + 1) o1 ((X : Nat) : Int) := hX.out.turn ((t1.out.mono (S' := IB wr.heap.size none) (fun _ _ g => g.elim)).trans' h43) (fun kk g g2 => by (have := IB_none g2; have := hX.out.lt g; omega))
             replace h41 := Lib.hid h41
             clear h42 h43 hC))
        | (go_at_call 133; ((with_reducible refine hC4.mono ?_)); rintro en we ⟨rfl, rfl⟩)
        | (at_builtin
           go_loud (
             have hR2 := hR.more (S := fun _ => False) ((Turn.refl (fun _ => False) wa).alloc (.cells #[.int .i64 (v : Int)] 3)) (fun _ g => g.elim)
             refine wpList_append_int _ rfl _ _ rfl wb.heap.size k (bl M / 30 + 1) rfl ⟨wa.heap.size, 0, none⟩ 1 (v : Int) rfl (cell_made _ _ _ 0) hkC2 (by rw [hR2.rest k (Nat.le_refl _) hkC]; rfl) (hR2.fz k) ?_
             have hXb := (hXa.still ((Turn.refl (fun _ => False) wa).alloc (.cells #[.int .i64 (v : Int)] 3))).turn (((Turn.refl (fun x => x = wb.heap.size) _).setCell (p := ⟨wb.heap.size, k, none⟩) (fun _ => rfl) (.int .i64 (v : Int)))) (fun kk g g2 => (hsep.out kk g).2.1 g2)
             have hD0 := Rsh_any (w.heap.size + 1 + 1) o1 _ (w.heap.size + 1 + 1) o1 X 30 _ hXb hXb (.inl ⟨rfl, rfl⟩) (by omega) (by omega) (by omega)
             replace hR2 := Lib.hid hR2
             replace hXb := Lib.hid hXb))
        | (go_at_call 129
           go_loud (
             have hD : Calls Tryz.prog 129 #[.pointer (some ⟨w.heap.size + 1 + 1, 0, none⟩), .pointer (some ⟨w.heap.size + 1 + 1, 0, none⟩), .int .u64 30] ((wa.alloc (.cells #[.int .i64 (v : Int)] 3)).setCells wb.heap.size k [.int .i64 (v : Int)]) _ := hD0
             ((with_reducible refine hD.mono ?_))
             rintro en w9 hres
             have hen := hres.1
             subst hen
             have hst : TL w p e (w.heap.size + 1 + 1) wb.heap.size (bl M / 30 + 1) p3 o3 M (k + 1) w9 := by
               have hv := hvd.out
               have hx := hXd.out
               subst hx hv
               exact hR2.out.step hkC hsep.out hres
             replace hst := Lib.hid hst
             clear hres)))
      all_goals go_roundw
      case rel => exact ⟨k + 1, rfl, hst.out, .inr (by rw [Nat.add_sub_cancel, hXd.out]; exact hx0)⟩
      case measure =>
        show bl M / 30 + 1 - (k + 1) < bl M / 30 + 1 - k
        omega
end
section
open Go.RowKit
theorem told_any (p : Nat) (o : Option (Nat × Nat)) (m e : Int) (w : World) (hI : It w p o m) (hb : bl m.natAbs ≤ 60000) (he1 : -1048576 ≤ e) (he2 : ∀ t q : Nat, m.natAbs = 2 ^ t * (2 * q + 1) → e + t ≤ 1048576) (hT : Tab w) :
    Calls Tryz.prog 93 #[.agg #[.pointer (some ⟨p, 0, none⟩), .int .i64 e]] w (ToldRes w m e) := by
  by_cases hm : m = 0
  · subst hm
    exact told_zero p o e w hI
  · exact told_some p o m e w hI hm hb he1 he2 hT
end
end Go.Proofs.YtllapbkoildfiaaGreatFmt
