/- The words of all further texts: numbers made of words of 64 bits, cells that hold words, and what a call may turn in memory. -/
import Derived.Below
import Derived.Deep.Draws
set_option linter.all false
namespace Go.Proofs.YtllapbkoildfiaaGreatFmt
section
open Go.RowKit
abbrev W64 : Nat := 18446744073709551616
def vl (f : Nat → Nat) : Nat → Nat
  | 0 => 0
  | n + 1 => vl f n + f n * 18446744073709551616 ^ n
structure Turn (S : Nat → Prop) (w w' : World) : Prop where
  os : w'.os = w.os
  tape : w'.tape = w.tape
  output : w'.output = w.output
  size : w.heap.size ≤ w'.heap.size
  block : ∀ k, k < w.heap.size → ¬ S k → w'.heap[k]? = w.heap[k]?
variable {S S' : Nat → Prop} {w w' w'' : World}
theorem Turn.refl (S : Nat → Prop) (w : World) : Turn S w w := ⟨rfl, rfl, rfl, Nat.le_refl _, fun _ _ _ => rfl⟩
theorem Turn.trans (h : Turn S w w') (k : Turn S' w' w'') (hS : ∀ k, k < w.heap.size → S' k → S k) : Turn S w w'' :=
  ⟨k.os.trans h.os, k.tape.trans h.tape, k.output.trans h.output, Nat.le_trans h.size k.size,
    fun i hi hs => (k.block i (Nat.lt_of_lt_of_le hi h.size) fun g => hs (hS i hi g)).trans (h.block i hi hs)⟩
theorem Turn.trans' (h : Turn S w w') (k : Turn S w' w'') : Turn S w w'' := h.trans k fun _ _ g => g
theorem Turn.mono (h : Turn S w w') (hS : ∀ k, k < w.heap.size → S k → S' k) : Turn S' w w' :=
  ⟨h.os, h.tape, h.output, h.size, fun i hi hs => h.block i hi fun g => hs (hS i hi g)⟩
theorem Turn.ofBelow {B : Nat} (h : Below B w w') (hS : ∀ k, k < w.heap.size → B ≤ k → S k) : Turn S w w' :=
  ⟨h.os, h.tape, h.output, h.size, fun i hi hs => h.block i (Nat.lt_of_not_le fun g => hs (hS i hi g))⟩
theorem Turn.below {B : Nat} (h : Turn S w w') (hB : B ≤ w.heap.size) (hS : ∀ k, k < B → ¬ S k) : Below B w w' :=
  ⟨h.os, h.tape, h.output, h.size, fun i hi => h.block i (Nat.lt_of_lt_of_le hi hB) (hS i hi)⟩
theorem Turn.ofGrown {r : Option Nat} (h : w.grownBy w' r) (hS : ∀ k, k < w.heap.size → r = some k → S k) : Turn S w w' :=
  ⟨h.os, h.tape, h.output, h.size, fun i hi hs => h.block i hi fun g => hs (hS i hi g.symm)⟩
theorem Turn.cell (h : Turn S w w') {p : Addr} (hl : p.block < w.heap.size) (hs : ¬ S p.block) : w'.cell? p = w.cell? p := World.cell?_of_block (w := w) (h.block _ hl hs)
theorem Turn.frozen (h : Turn S w w') {p : Addr} (hl : p.block < w.heap.size) (hs : ¬ S p.block) : w'.frozen? p = w.frozen? p := World.frozen?_of_block (w := w) (h.block _ hl hs)
theorem Turn.drew (h : Turn S w w') : Turn S w w'.drew := ⟨h.os, h.tape, h.output, h.size, h.block⟩
theorem Turn.drewN (h : Turn S w w') (n : Nat) : Turn S w (w'.drewN n) := ⟨h.os, h.tape, h.output, h.size, h.block⟩
theorem Turn.alloc (h : Turn S w w') (o : Obj) : Turn S w (w'.alloc o) :=
  h.trans' ⟨rfl, rfl, rfl, by simp, fun _ hk _ => Below.heap_alloc _ _ _ hk⟩
theorem Turn.setCell (h : Turn S w w') {p : Addr} (hp : p.block < w.heap.size → S p.block) (u : Value) : Turn S w (w'.setCell p u) :=
  h.trans (S' := fun k => k = p.block) ⟨rfl, rfl, rfl, by simp [World.setCell], fun k _ hs => Below.heap_setCell _ _ _ _ hs⟩ fun k hk e => by subst e; exact hp hk
def Wd (w : World) (b o n : Nat) (f : Nat → Nat) : Prop :=
  ∀ i, i < n → w.cell? ⟨b, o + i, none⟩ = some (.int .u64 (f i : Nat)) ∧ w.frozen? ⟨b, o + i, none⟩ = false ∧ f i < 18446744073709551616
theorem Wd.lt {b o n : Nat} {f : Nat → Nat} (h : Wd w b o n f) (hn : 0 < n) : b < w.heap.size := World.block_lt_of_cell? w _ (h 0 hn).1
theorem Wd.mono {b o n m : Nat} {f : Nat → Nat} (h : Wd w b o n f) (hm : m ≤ n) : Wd w b o m f := fun i hi => h i (Nat.lt_of_lt_of_le hi hm)
theorem Wd.congr {b o n : Nat} {f g : Nat → Nat} (h : Wd w b o n f) (e : ∀ i, i < n → f i = g i) : Wd w b o n g := fun i hi => by rw [← e i hi]; exact h i hi
theorem Wd.sub {b o n k m : Nat} {f : Nat → Nat} (h : Wd w b o n f) (hm : k + m ≤ n) : Wd w b (o + k) m (fun i => f (k + i)) := fun i hi => by
  have := h (k + i) (by omega)
  rw [← Nat.add_assoc] at this
  exact this
theorem Wd.turn {b o n : Nat} {f : Nat → Nat} (h : Wd w b o n f) (t : Turn S w w') (hs : ¬ S b) : Wd w' b o n f := fun i hi => by
  have hl := h.lt (by omega)
  exact ⟨(t.cell (p := ⟨b, o + i, none⟩) hl hs).trans (h i hi).1, (t.frozen (p := ⟨b, o + i, none⟩) hl hs).trans (h i hi).2.1, (h i hi).2.2⟩
def Plain (w : World) (b : Nat) : Prop := ∃ (cur : Array Value) (t : TypeId), w.heap[b]? = some (.cells cur t (0, 0))
theorem Plain.lt {b : Nat} (h : Plain w b) : b < w.heap.size := by
  obtain ⟨cur, t, h⟩ := h
  rcases Nat.lt_or_ge b w.heap.size with g | g
  · exact g
  · rw [Array.getElem?_eq_none g] at h; cases h
theorem Plain.setCell {b : Nat} (h : Plain w b) (a : Addr) (u : Value) : Plain (w.setCell a u) b := by
  obtain ⟨cur, t, h⟩ := h
  by_cases e : a.block = b
  · refine ⟨if a.spot.isSome then cur else cur.setIfInBounds a.off u, t, ?_⟩
    simp only [World.setCell, Array.getElem?_modify, e, if_true, h, Option.map_some]
  · exact ⟨cur, t, (Below.heap_setCell w a u b (fun g => e g.symm)).trans h⟩
theorem Plain.turn {b : Nat} (h : Plain w b) (t : Turn S w w') (hs : ¬ S b) : Plain w' b := by
  have hl := h.lt
  obtain ⟨cur, ty, h⟩ := h
  exact ⟨cur, ty, (t.block b hl hs).trans h⟩
theorem Plain.made (cur : Array Value) (t : TypeId) : Plain (w.alloc (.cells cur t)) w.heap.size := ⟨cur, t, by show (w.heap.push _)[w.heap.size]? = _; rw [Array.getElem?_push_size]⟩
structure Rw (b lo hi : Nat) (w w' : World) : Prop where
  turn : Turn (· = b) w w'
  out : ∀ j, ¬ (lo ≤ j ∧ j < hi) → w'.cell? ⟨b, j, none⟩ = w.cell? ⟨b, j, none⟩
  frz : ∀ j, w'.frozen? ⟨b, j, none⟩ = w.frozen? ⟨b, j, none⟩
  pl : Plain w b → Plain w' b
theorem Rw.refl (b lo hi : Nat) (w : World) : Rw b lo hi w w := ⟨Turn.refl _ _, fun _ _ => rfl, fun _ => rfl, id⟩
theorem Rw.mono {b lo hi lo' hi' : Nat} (h : Rw b lo hi w w') (h1 : lo' ≤ lo) (h2 : hi ≤ hi') : Rw b lo' hi' w w' := ⟨h.turn, fun j hj => h.out j (by omega), h.frz, h.pl⟩
theorem Rw.trans {b lo hi : Nat} (h : Rw b lo hi w w') (k : Rw b lo hi w' w'') : Rw b lo hi w w'' :=
  ⟨h.turn.trans' k.turn, fun j hj => (k.out j hj).trans (h.out j hj), fun j => (k.frz j).trans (h.frz j), fun p => k.pl (h.pl p)⟩
theorem Rw.set {b lo hi : Nat} (h : Rw b lo hi w w') {j : Nat} (h1 : lo ≤ j) (h2 : j < hi) (u : Value) : Rw b lo hi w (w'.setCell ⟨b, j, none⟩ u) :=
  ⟨h.turn.setCell (fun _ => rfl) u, fun i hi => (World.cell?_setCell_other _ _ _ _ (by intro e; simp at e; omega)).trans (h.out i hi),
    fun i => by rw [World.frozen?_setCell]; exact h.frz i, fun p => (h.pl p).setCell _ _⟩
theorem Rw.drew {b lo hi : Nat} (h : Rw b lo hi w w') : Rw b lo hi w w'.drew := ⟨h.turn.drew, h.out, h.frz, h.pl⟩
theorem Rw.drewN {b lo hi : Nat} (h : Rw b lo hi w w') (n : Nat) : Rw b lo hi w (w'.drewN n) := ⟨h.turn.drewN n, h.out, h.frz, h.pl⟩
theorem Rw.plain {b lo hi k : Nat} (r : Rw b lo hi w w') (h : Plain w k) : Plain w' k := by
  by_cases e : k = b
  · subst e; exact r.pl h
  · exact h.turn r.turn e
theorem Wd.rw {b o n zb lo hi : Nat} {f : Nat → Nat} (h : Wd w b o n f) (r : Rw zb lo hi w w') {i : Nat} (hi' : i < n) (ho : b = zb → ¬ (lo ≤ o + i ∧ o + i < hi)) :
    w'.cell? ⟨b, o + i, none⟩ = some (.int .u64 (f i : Nat)) ∧ w'.frozen? ⟨b, o + i, none⟩ = false ∧ f i < 18446744073709551616 := by
  have hh := h i hi'
  by_cases e : b = zb
  · subst e
    exact ⟨(r.out _ (ho rfl)).trans hh.1, (r.frz _).trans hh.2.1, hh.2.2⟩
  · exact ⟨(r.turn.cell (p := ⟨b, o + i, none⟩) (h.lt (by omega)) e).trans hh.1, (r.turn.frozen (p := ⟨b, o + i, none⟩) (h.lt (by omega)) e).trans hh.2.1, hh.2.2⟩
theorem Wd.rwAll {b o n zb lo hi : Nat} {f : Nat → Nat} (h : Wd w b o n f) (r : Rw zb lo hi w w') (ho : ∀ i, i < n → b = zb → ¬ (lo ≤ o + i ∧ o + i < hi)) : Wd w' b o n f := fun i hi' => h.rw r hi' (ho i hi')
theorem Wd.snoc {b o k : Nat} {f : Nat → Nat} {v : Nat} (h : Wd w b o k f) {u : Value} (hc : w.cell? ⟨b, o + k, none⟩ = some u) (hf : w.frozen? ⟨b, o + k, none⟩ = false) (hv : v < 18446744073709551616) :
    Wd (w.setCell ⟨b, o + k, none⟩ (.int .u64 (v : Nat))) b o (k + 1) (fun j => if j = k then v else f j) := fun i hi => by
  rcases Nat.lt_or_ge i k with g | g
  · have hne : i ≠ k := by omega
    simp only [if_neg hne]
    exact ⟨(World.cell?_setCell_other _ _ _ _ (by intro e; simp at e; omega)).trans (h i g).1, by rw [World.frozen?_setCell]; exact (h i g).2.1, (h i g).2.2⟩
  · obtain rfl : i = k := by omega
    simp only [ite_true]
    exact ⟨World.cell?_setCell_same _ _ _ hc, by rw [World.frozen?_setCell]; exact hf, hv⟩
theorem Wd.put {b o n k : Nat} {f : Nat → Nat} {v : Nat} (h : Wd w b o n f) (hk : k < n) (hv : v < 18446744073709551616) :
    Wd (w.setCell ⟨b, o + k, none⟩ (.int .u64 (v : Nat))) b o n (fun j => if j = k then v else f j) := fun i hi => by
  by_cases g : i = k
  · subst g
    simp only [ite_true]
    exact ⟨World.cell?_setCell_same _ _ _ (h i hi).1, by rw [World.frozen?_setCell]; exact (h i hi).2.1, hv⟩
  · simp only [if_neg g]
    exact ⟨(World.cell?_setCell_other _ _ _ _ (by intro e; simp at e; omega)).trans (h i hi).1, by rw [World.frozen?_setCell]; exact (h i hi).2.1, (h i hi).2.2⟩
theorem Wd.drew {b o n : Nat} {f : Nat → Nat} (h : Wd w b o n f) : Wd w.drew b o n f := h
theorem Wd.drewN {b o n : Nat} {f : Nat → Nat} (h : Wd w b o n f) (m : Nat) : Wd (w.drewN m) b o n f := h
theorem ret_int {k : IntKind} {a b : Int} (h : a = b) : Ending.returned (.int k a) = .returned (.int k b) := by rw [h]
theorem vl_succ (f : Nat → Nat) (n : Nat) : vl f (n + 1) = vl f n + f n * 18446744073709551616 ^ n := rfl
theorem vl_congr {f g : Nat → Nat} {n : Nat} (h : ∀ i, i < n → f i = g i) : vl f n = vl g n := by
  induction n with
  | zero => rfl
  | succ n ih => rw [vl, vl, ih fun i hi => h i (by omega), h n (by omega)]
theorem vl_lt {f : Nat → Nat} {n : Nat} (h : ∀ i, i < n → f i < 18446744073709551616) : vl f n < 18446744073709551616 ^ n := by
  induction n with
  | zero => simp [vl]
  | succ n ih =>
    have h1 := ih fun i hi => h i (by omega)
    have h2 := h n (by omega)
    rw [vl, Nat.pow_succ]
    have h3 : f n * 18446744073709551616 ^ n + 18446744073709551616 ^ n ≤ 18446744073709551616 * 18446744073709551616 ^ n := by
      rw [← Nat.succ_mul]; exact Nat.mul_le_mul_right _ h2
    rw [Nat.mul_comm (18446744073709551616 ^ n) 18446744073709551616]
    omega
theorem vl_add (f : Nat → Nat) (m n : Nat) : vl f (m + n) = vl f m + 18446744073709551616 ^ m * vl (fun i => f (m + i)) n := by
  induction n with
  | zero => simp [vl]
  | succ n ih => rw [← Nat.add_assoc, vl, ih, vl, Nat.mul_add, Nat.pow_add, Nat.add_assoc, Nat.mul_left_comm]
theorem vl_put {f : Nat → Nat} {k v : Nat} : vl (fun j => if j = k then v else f j) (k + 1) = vl f k + v * 18446744073709551616 ^ k := by
  rw [vl]
  simp only [if_pos]
  rw [vl_congr (g := f)]
  intro i hi
  rw [if_neg (by omega)]
def jn (n : Nat) (f g : Nat → Nat) (i : Nat) : Nat := if i < n then f i else g (i - n)
theorem vl_jn (n k : Nat) (f g : Nat → Nat) : vl (jn n f g) (n + k) = vl f n + 18446744073709551616 ^ n * vl g k := by
  rw [vl_add]
  congr 1
  · exact vl_congr fun i hi => by unfold jn; rw [if_pos hi]
  · congr 1
    exact vl_congr fun i _ => by unfold jn; rw [if_neg (by omega), Nat.add_sub_cancel_left]
theorem Wd.jn {b o n k : Nat} {f g : Nat → Nat} (hf : Wd w b o n f) (hg : Wd w b (o + n) k g) : Wd w b o (n + k) (jn n f g) := fun i hi => by
  unfold YtllapbkoildfiaaGreatFmt.jn
  by_cases h : i < n
  · rw [if_pos h]; exact hf i h
  · rw [if_neg h]
    have := hg (i - n) (by omega)
    rw [show o + n + (i - n) = o + i by omega] at this
    exact this
theorem Wd.one {b o v : Nat} (h : w.cell? ⟨b, o, none⟩ = some (.int .u64 (v : Nat)) ∧ w.frozen? ⟨b, o, none⟩ = false ∧ v < 18446744073709551616) : Wd w b o 1 (fun _ => v) := fun i hi => by
  obtain rfl : i = 0 := by omega
  exact h
theorem Wd.still {b o n : Nat} {f : Nat → Nat} (h : Wd w b o n f) (t : Turn (fun _ => False) w w') : Wd w' b o n f := h.turn t id
theorem Plain.still {b : Nat} (h : Plain w b) (t : Turn (fun _ => False) w w') : Plain w' b := h.turn t id
end
end Go.Proofs.YtllapbkoildfiaaGreatFmt
