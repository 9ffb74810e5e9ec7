/- The walks of sort.Sort's family: order2, median, medianAdjacent, choosePivot. -/
import Derived.Test.YtbmgjbpcijbocaaSrtA
import Derived.Shelf.GgSortMore.IfaceD
namespace Go.Proofs.Ytbmgjbpcijbocaa
open Go.RowKit Go.Sort Go.Lib
variable {α : Type} [Inhabited α] {enc : α → Value} {lt : α → α → Bool} {W0 : World} {blk N : Nat} {rv sv : Value}

/-- A counter in a block of its own. -/
def Ctr (cb s : Nat) (W : World) : Prop := W.cell? ⟨cb, 0, none⟩ = some (.int .i64 s) ∧ W.frozen? ⟨cb, 0, none⟩ = false

theorem Ctr.below {cb s : Nat} {W w' : World} (h : Ctr cb s W) (hb : Below W.heap.size W w') : Ctr cb s w' := by
  have hl := World.block_lt_of_cell? W _ h.1
  exact ⟨(hb.cell (p := ⟨cb, 0, none⟩) hl).trans h.1, (hb.frozen (p := ⟨cb, 0, none⟩) hl).trans h.2⟩

theorem Ctr.set {cb s t : Nat} {W : World} (h : Ctr cb s W) : Ctr cb t (W.setCell ⟨cb, 0, none⟩ (.int .i64 t)) :=
  ⟨World.cell?_setCell_same _ _ _ h.1, by rw [World.frozen?_setCell]; exact h.2⟩

theorem St.setNew {d : Array α} {W : World} (h : St enc W0 blk d W) {cb o : Nat} (hcb : W0.heap.size ≤ cb) (v : Value) : St enc W0 blk d (W.setCell ⟨cb, o, none⟩ v) := by
  have hne : cb ≠ blk := by have := h.2.1; omega
  refine ⟨?_, h.2.1, fun j hj => ?_⟩
  · exact ⟨h.1.os, h.1.tape, h.1.output, Nat.le_trans h.1.size (by simp [World.setCell]), fun k hk hr => (Below.heap_setCell W ⟨cb, o, none⟩ v k (by show k ≠ cb; omega)).trans (h.1.block k hk hr)⟩
  · exact ⟨(World.cell?_setCell_other _ _ _ _ (by intro e; simp only [Addr.mk.injEq] at e; omega)).trans (h.2.2 j hj).1, by rw [World.frozen?_setCell]; exact (h.2.2 j hj).2⟩

set_option maxHeartbeats 1000000 in
set_option maxRecDepth 100000 in
theorem order2_any (S : Srt enc lt W0 blk N rv sv) (W : World) (d : Array α) (a b cb s : Nat) (hd : Hid (d.size = N)) (hS : St enc W0 blk d W) (ha : a < N) (hb : b < N) (hC : Ctr cb s W) (hcb : W0.heap.size ≤ cb) (hs : s < 4611686018427387904) :
    Calls Try.prog 51 #[.iface 58 rv, .int .i64 a, .int .i64 b, .pointer (some ⟨cb, 0, none⟩)] W fun e w' =>
      e = .returned (.tuple #[.int .i64 (order2 lt d a b s).1, .int .i64 (order2 lt d a b s).2.1]) ∧ St enc W0 blk d w' ∧ Ctr cb (order2 lt d a b s).2.2 w' := by
  have mL := S.finds.2.1
  have eL := enters72
  cases hlv : lt d[b]! d[a]! with
  | true =>
    have e2 : order2 lt d a b s = (b, a, s + 1) := by simp [order2, hlv]
    have HLV := Lib.hid hlv
    rw [e2]
    clear hlv e2
    go_enter Try.func51, Try.ntmps51
    go_wp2_with (go_at_call 72; refine (S.lessAt hS hd b a rfl rfl hb ha HLV.out).mono ?_; rintro e w1 ⟨rfl, hS1, hB⟩; have hC1 := hC.below hB; obtain ⟨c1, f1⟩ := id hC1)
    go_ret2
    exact ⟨rfl, hS1.setNew hcb _, hC1.set (t := s + 1)⟩
  | false =>
    have e2 : order2 lt d a b s = (a, b, s) := by simp [order2, hlv]
    have HLV := Lib.hid hlv
    rw [e2]
    clear hlv e2
    go_enter Try.func51, Try.ntmps51
    go_wp2_with (go_at_call 72; refine (S.lessAt hS hd b a rfl rfl hb ha HLV.out).mono ?_; rintro e w1 ⟨rfl, hS1, hB⟩; have hC1 := hC.below hB; obtain ⟨c1, f1⟩ := id hC1)
    go_ret2
    exact ⟨rfl, hS1, hC1⟩

set_option maxHeartbeats 1000000 in
set_option maxRecDepth 100000 in
theorem median_any (S : Srt enc lt W0 blk N rv sv) (W : World) (d : Array α) (a b c cb s : Nat) (hd : Hid (d.size = N)) (hS : St enc W0 blk d W) (ha : a < N) (hb : b < N) (hc : c < N) (hC : Ctr cb s W) (hcb : W0.heap.size ≤ cb) (hs : s + 3 < 4611686018427387904) :
    Calls Try.prog 50 #[.iface 58 rv, .int .i64 a, .int .i64 b, .int .i64 c, .pointer (some ⟨cb, 0, none⟩)] W fun e w' =>
      e = .returned (.int .i64 (median lt d a b c s).1) ∧ St enc W0 blk d w' ∧ Ctr cb (median lt d a b c s).2 w' := by
  have l1 := order2_lt' lt d s ha hb
  have s1 := order2_swaps' lt d a b s
  have l2 := order2_lt' lt d (order2 lt d a b s).2.2 l1.2 hc
  have s2 := order2_swaps' lt d (order2 lt d a b s).2.1 c (order2 lt d a b s).2.2
  unfold median
  simp only []
  obtain ⟨a1, b1, t1, h1⟩ : ∃ a1 b1 t1, order2 lt d a b s = (a1, b1, t1) := ⟨_, _, _, rfl⟩
  rw [h1] at l1 s1 l2 s2 ⊢
  obtain ⟨b2, c2, t2, h2⟩ : ∃ b2 c2 t2, order2 lt d b1 c t1 = (b2, c2, t2) := ⟨_, _, _, rfl⟩
  simp only [] at l1 s1 l2 s2 ⊢
  rw [h2] at l2 s2 ⊢
  obtain ⟨a3, b3, t3, h3⟩ : ∃ a3 b3 t3, order2 lt d a1 b2 t2 = (a3, b3, t3) := ⟨_, _, _, rfl⟩
  simp only [] at l2 s2 ⊢
  rw [h3]
  simp only []
  have q1 : Calls Try.prog 51 #[.iface 58 rv, .int .i64 a, .int .i64 b, .pointer (some ⟨cb, 0, none⟩)] W fun e w' => e = .returned (.tuple #[.int .i64 a1, .int .i64 b1]) ∧ St enc W0 blk d w' ∧ Ctr cb t1 w' := by
    have := order2_any S W d a b cb s hd hS ha hb hC hcb (by omega); rw [h1] at this; exact this
  have q2 : ∀ w, St enc W0 blk d w → Ctr cb t1 w → Calls Try.prog 51 #[.iface 58 rv, .int .i64 b1, .int .i64 c, .pointer (some ⟨cb, 0, none⟩)] w fun e w' => e = .returned (.tuple #[.int .i64 b2, .int .i64 c2]) ∧ St enc W0 blk d w' ∧ Ctr cb t2 w' := fun w hS hC => by
    have := order2_any S w d b1 c cb t1 hd hS l1.2 hc hC hcb (by omega); rw [h2] at this; exact this
  have q3 : ∀ w, St enc W0 blk d w → Ctr cb t2 w → Calls Try.prog 51 #[.iface 58 rv, .int .i64 a1, .int .i64 b2, .pointer (some ⟨cb, 0, none⟩)] w fun e w' => e = .returned (.tuple #[.int .i64 a3, .int .i64 b3]) ∧ St enc W0 blk d w' ∧ Ctr cb t3 w' := fun w hS hC => by
    have := order2_any S w d a1 b2 cb t2 hd hS l1.1 l2.1 hC hcb (by omega); rw [h3] at this; exact this
  have Q2 := Lib.hid q2
  have Q3 := Lib.hid q3
  clear h1 h2 h3 q2 q3 hS hC
  go_enter Try.func50, Try.ntmps50
  go_wp2_with (first
    | (go_at_call 51; (with_reducible refine q1.mono ?_); rintro e w1 ⟨rfl, hS1, hC1⟩)
    | (go_at_call 51; (with_reducible refine (Q2.out _ hS1 hC1).mono ?_); rintro e w2 ⟨rfl, hS2, hC2⟩)
    | (go_at_call 51; (with_reducible refine (Q3.out _ hS2 hC2).mono ?_); rintro e w3 ⟨rfl, hS3, hC3⟩))
  go_ret
  exact ⟨rfl, hS3, hC3⟩

set_option maxHeartbeats 1000000 in
set_option maxRecDepth 100000 in
theorem medianAdjacent_any (S : Srt enc lt W0 blk N rv sv) (W : World) (d : Array α) (a cb s : Nat) (hd : Hid (d.size = N)) (hS : St enc W0 blk d W) (ha1 : 1 ≤ a) (ha2 : a + 1 < N) (hC : Ctr cb s W) (hcb : W0.heap.size ≤ cb) (hs : s + 3 < 4611686018427387904) :
    Calls Try.prog 49 #[.iface 58 rv, .int .i64 a, .pointer (some ⟨cb, 0, none⟩)] W fun e w' =>
      e = .returned (.int .i64 (medianAdjacent lt d a s).1) ∧ St enc W0 blk d w' ∧ Ctr cb (medianAdjacent lt d a s).2 w' := by
  have hN := S.small
  have hm := median_any S W d (a - 1) a (a + 1) cb s hd hS (by omega) (by omega) ha2 hC hcb hs
  rw [show ((a - 1 : Nat) : Int) = (a : Int) - 1 by omega, show ((a + 1 : Nat) : Int) = (a : Int) + 1 by omega] at hm
  clear hS hC
  go_enter Try.func49, Try.ntmps49
  go_wp2_with (go_at_call 50; refine hm.mono ?_; rintro e w1 ⟨rfl, hS1, hC1⟩)
  go_ret
  exact ⟨rfl, hS1, hC1⟩
end Go.Proofs.Ytbmgjbpcijbocaa
