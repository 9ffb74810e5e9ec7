/- The walks of sort.Sort's family over a value whose Less makes blocks of its own: the words, insertionSort, reverseRange. -/
import Derived.Test.YtbmgjbpcijbocaaPts
import Derived.Test.YtbmgjbpcijbocaaShelfP
import Derived.Sort.WalkB12
import Derived.Sort.WalkA
import Derived.Deep.LoopGhost
import Derived.Shelf.GgSortFunc.Partition
import Derived.WalkKit
import Derived.Below
import Derived.Lib.Hide
namespace Go.Proofs.Ytbmgjbpcijbocaa
open Go.RowKit Go.Sort Go.Lib
variable {α : Type} [Inhabited α]

/-- The row in block blk holds d; since W0 only that block, and new ones, have turned. -/
def St (enc : α → Value) (W0 : World) (blk : Nat) (d : Array α) (W : World) : Prop := W0.grownBy W (some blk) ∧ blk < W0.heap.size ∧ Holds enc W blk 0 d

/-- Less, wherever the row holds d: it answers by lt, and turns nothing that was there. -/
def LessS (enc : α → Value) (lt : α → α → Bool) (W0 : World) (blk N : Nat) (rv : Value) : Prop :=
  ∀ (W : World) (d : Array α), St enc W0 blk d W → d.size = N → ∀ i j : Nat, i < N → j < N →
    Calls Try.prog 72 #[rv, .int .i64 i, .int .i64 j] W fun e w' => e = .returned (.bool (lt d[i]! d[j]!)) ∧ Below W.heap.size W w'

/-- Swap, wherever the row holds d: it exchanges two. -/
def SwapS (enc : α → Value) (blk N : Nat) (sv : Value) : Prop :=
  ∀ (W : World) (d : Array α), Holds enc W blk 0 d → d.size = N → ∀ i j : Nat, i < N → j < N →
    Calls Try.prog 71 #[sv, .int .i64 i, .int .i64 j] W fun e w' => e = .returned (.tuple #[]) ∧ W.grownBy w' (some blk) ∧ Holds enc w' blk 0 (swp d i j)

theorem grownBy_trans {a b c : World} {r : Option Nat} (h : a.grownBy b r) (k : b.grownBy c r) : a.grownBy c r :=
  ⟨k.os.trans h.os, k.tape.trans h.tape, k.output.trans h.output, Nat.le_trans h.size k.size, fun i hi hr => (k.block i (Nat.lt_of_lt_of_le hi h.size) hr).trans (h.block i hi hr)⟩

theorem grownBy_refl (a : World) (r : Option Nat) : a.grownBy a r := ⟨rfl, rfl, rfl, Nat.le_refl _, fun _ _ _ => rfl⟩

theorem grownBy_of_below {a b : World} (h : Below a.heap.size a b) (r : Option Nat) : a.grownBy b r := ⟨h.os, h.tape, h.output, h.size, fun k hk _ => h.block k hk⟩

theorem St.lt {enc : α → Value} {W0 W : World} {blk : Nat} {d : Array α} (h : St enc W0 blk d W) : blk < W.heap.size := Nat.lt_of_lt_of_le h.2.1 h.1.size

theorem St.below {enc : α → Value} {W0 W w' : World} {blk : Nat} {d : Array α} (h : St enc W0 blk d W) (hb : Below W.heap.size W w') : St enc W0 blk d w' :=
  ⟨grownBy_trans h.1 (grownBy_of_below hb _), h.2.1, fun j hj => ⟨(hb.cell (p := ⟨blk, 0 + j, none⟩) h.lt).trans (h.2.2 j hj).1, (hb.frozen (p := ⟨blk, 0 + j, none⟩) h.lt).trans (h.2.2 j hj).2⟩⟩

theorem St.swap {enc : α → Value} {W0 W w' : World} {blk : Nat} {d d' : Array α} (h : St enc W0 blk d W) (hg : W.grownBy w' (some blk)) (hH : Holds enc w' blk 0 d') : St enc W0 blk d' w' :=
  ⟨grownBy_trans h.1 hg, h.2.1, hH⟩

/-- How the three methods are reached by name. -/
def Finds (rv sv : Value) : Prop :=
  (∀ w, Sem.run Try.prog (method 206 58 rv "Len") w = .ok (68, sv) w) ∧ (∀ w, Sem.run Try.prog (method 206 58 rv "Less") w = .ok (72, rv) w) ∧ (∀ w, Sem.run Try.prog (method 206 58 rv "Swap") w = .ok (71, sv) w)

theorem enters72 : ∀ args w, (callFunc 72 args).run Try.prog w = .ok (.enter 72 args) w := enters_of Try.func72 (by kernel_rfl) rfl
theorem enters71 : ∀ args w, (callFunc 71 args).run Try.prog w = .ok (.enter 71 args) w := enters_of Try.func71 (by kernel_rfl) rfl
theorem enters68 : ∀ args w, (callFunc 68 args).run Try.prog w = .ok (.enter 68 args) w := enters_of Try.func68 (by kernel_rfl) rfl

/-- A row to be sorted: its methods, by name and by what they do; it is not too long. -/
structure Srt (enc : α → Value) (lt : α → α → Bool) (W0 : World) (blk N : Nat) (rv sv : Value) : Prop where
  finds : Finds rv sv
  less : LessS enc lt W0 blk N rv
  swap : SwapS enc blk N sv
  small : N < 4611686018427387904

section
variable {enc : α → Value} {lt : α → α → Bool} {W0 : World} {blk N : Nat} {rv sv : Value}

/-- Less at two places that are spelled as numbers. -/
theorem Srt.lessAt (S : Srt enc lt W0 blk N rv sv) {W : World} {d : Array α} (h : St enc W0 blk d W) (hs : Hid (d.size = N)) (i j : Nat) {x y : Int} (hx : x = i) (hy : y = j) (hi : i < N) (hj : j < N) {v : Bool} (hv : lt d[i]! d[j]! = v) :
    Calls Try.prog 72 #[rv, .int .i64 x, .int .i64 y] W fun e w' => e = .returned (.bool v) ∧ St enc W0 blk d w' ∧ Below W.heap.size W w' := by
  subst hx hy hv
  exact (S.less W d h hs i j hi hj).mono fun _ _ ⟨he, hb⟩ => ⟨he, h.below hb, hb⟩

/-- Swap, likewise. -/
theorem Srt.swapAt (S : Srt enc lt W0 blk N rv sv) {W : World} {d : Array α} (h : St enc W0 blk d W) (hs : Hid (d.size = N)) (i j : Nat) {x y : Int} (hx : x = i) (hy : y = j) (hi : i < N) (hj : j < N) :
    Calls Try.prog 71 #[sv, .int .i64 x, .int .i64 y] W fun e w' => e = .returned (.tuple #[]) ∧ St enc W0 blk (swp d i j) w' ∧ W.grownBy w' (some blk) := by
  subst hx hy
  exact (S.swap W d h.2.2 hs i j hi hj).mono fun _ _ ⟨he, hg, hH⟩ => ⟨he, h.swap hg hH, hg⟩

theorem hsize {d : Array α} (h : Hid (d.size = N)) (i j : Nat) : Hid ((swp d i j).size = N) := by
  show (swp d i j).size = N
  rw [size_swp]; exact h.out

set_option maxHeartbeats 2000000 in
set_option maxRecDepth 100000 in
theorem insertionSort_any (S : Srt enc lt W0 blk N rv sv) (a b : Nat) (d : Array α) (w : World) (hs : Hid (d.size = N)) (hS : St enc W0 blk d w) (_hab : a ≤ b) (hb : b ≤ N) :
    Calls Try.prog 38 #[.iface 58 rv, .int .i64 a, .int .i64 b] w fun e w' => e = .returned (.tuple #[]) ∧ St enc W0 blk (Sort.insertionSort lt d a b) w' := by
  have hN := S.small
  have mL := S.finds.2.1
  have mS := S.finds.2.2
  have eL := enters72
  have eS := enters71
  go_enter Try.func38, Try.ntmps38
  go_wp2
  go_loopw [6] (fun vi wr => ∃ (i : Nat) (dk : Array α), vi = .int .i64 i ∧ a < i ∧ i ≤ b + 1 ∧ Hid (dk.size = N) ∧ St enc W0 blk dk wr ∧ Hid (insOuter lt a b i dk = insOuter lt a b (a + 1) d)) (fun vi _ => b + 1 - (intOf vi).toNat)
  case atStart => exact ⟨a + 1, d, by go_num, by omega, by omega, hs, hS, rfl⟩
  case round =>
    obtain ⟨i, dk, rfl, hai, hib, hsk, hSk, HO⟩ := hrel
    clear hS hs
    go_wp2
    · go_loopw [7] (fun vj wr2 => ∃ (j : Nat) (dj : Array α), vj = .int .i64 j ∧ a ≤ j ∧ j ≤ i ∧ Hid (dj.size = N) ∧ St enc W0 blk dj wr2 ∧ Hid (insInner lt a j dj = insInner lt a i dk)) (fun vj _ => (intOf vj).toNat)
      case atStart => exact ⟨i, dk, rfl, by omega, Nat.le_refl _, hsk, hSk, rfl⟩
      case round =>
        obtain ⟨j, dj, rfl, haj, hji, hsj, hSj, HI⟩ := hrel
        have hlt : i < b := by assumption
        clear hSk hsk
        have OUT : Hid ((j ≤ a ∨ lt dj[j]! dj[j - 1]! = false) → ∀ w', St enc W0 blk dj w' → ∃ (i' : Nat) (dk' : Array α), Value.int .i64 ((i : Int) + 1) = .int .i64 (i' : Nat) ∧ a < i' ∧ i' ≤ b + 1 ∧ Hid (dk'.size = N) ∧ St enc W0 blk dk' w' ∧ Hid (insOuter lt a b i' dk' = insOuter lt a b (a + 1) d)) := fun hs w' hw' =>
          ⟨i + 1, dj, by go_num, by omega, by omega, hsj, hw', by
            show insOuter lt a b (i + 1) dj = _
            rw [← HO.out, insOuter_go _ _ _ _ _ hlt, ← HI.out, insInner_stop _ _ _ _ hs]⟩
        by_cases hja : a < j
        · cases hlv : lt dj[j]! dj[j - 1]! with
          | true =>
            have HLV := Lib.hid hlv
            clear hlv
            go_wp2_with (first
              | (go_at_call 72; refine (S.lessAt hSj hsj j (j - 1) (by omega) (by omega) (by omega) (by omega) HLV.out).mono ?_; rintro e w1 ⟨rfl, hS1, _⟩)
              | (go_at_call 71; refine (S.swapAt hS1 hsj j (j - 1) (by omega) (by omega) (by omega) (by omega)).mono ?_; rintro e w2 ⟨rfl, hS2, _⟩))
            go_roundw
            case rel =>
              (repeat apply Exists.intro)
              refine ⟨⟨j - 1, swp dj j (j - 1), by congr 1 <;> omega, by omega, by omega, hsize hsj _ _, hS2, ?_⟩, by rw [decide_eq_true hlt, show ((j - 1 : Nat) : Int) = (j : Int) - 1 by omega]⟩
              show insInner lt a (j - 1) (swp dj j (j - 1)) = _
              rw [← HI.out, insInner_go lt a j dj hja HLV.out]
            case measure => simp [intOf]; omega
          | false =>
            have HLV := Lib.hid hlv
            clear hlv
            go_wp2_with (go_at_call 72; refine (S.lessAt hSj hsj j (j - 1) (by omega) (by omega) (by omega) (by omega) HLV.out).mono ?_; rintro e w1 ⟨rfl, hS1, _⟩)
            go_roundw
            case rel => exact OUT.out (Or.inr HLV.out) _ hS1
            case measure => simp [intOf]; omega
        · go_wp2
          go_roundw
          case rel => exact OUT.out (Or.inl (by omega)) _ hSj
          case measure => simp [intOf]; omega
    · have hge : ¬ i < b := by assumption
      go_end0
      exact ⟨rfl, by unfold Sort.insertionSort; rw [← HO.out, insOuter_stop _ _ _ _ _ hge]; exact hSk⟩

set_option maxHeartbeats 1600000 in
set_option maxRecDepth 1000000 in
theorem reverseRange_any (S : Srt enc lt W0 blk N rv sv) (a b : Nat) (d : Array α) (w : World) (hs : Hid (d.size = N)) (hS : St enc W0 blk d w) (_hab : a ≤ b) (hb : b ≤ N) :
    Calls Try.prog 42 #[.iface 58 rv, .int .i64 a, .int .i64 b] w fun e w' => e = .returned (.tuple #[]) ∧ St enc W0 blk (reverseRange d a b) w' := by
  have hN := S.small
  have mS := S.finds.2.2
  have eS := enters71
  go_enter Try.func42, Try.ntmps42
  go_wp2
  go_loopg [6, 7] (b - a) (fun k s6 s7 wr => ∃ (i jn : Nat) (jz : Int) (dk : Array α), s6 = .int .i64 i ∧ s7 = .int .i64 jz ∧ ((i : Int) < jz → jz = jn ∧ jn < N) ∧ (¬ (i : Int) < jz → ¬ i < jn) ∧ jn - i ≤ k ∧
    Hid (dk.size = N) ∧ St enc W0 blk dk wr ∧ Hid (reverseLoop i jn dk = reverseLoop a (b - 1) d))
  case atStart => exact ⟨a, b - 1, (b : Int) - 1, d, rfl, rfl, fun h => ⟨by omega, by omega⟩, fun h => by omega, by omega, hs, hS, rfl⟩
  case round =>
    clear hS hs
    obtain ⟨i, jn, jz, dk, rfl, rfl, h1, h2, hk, hds, hSk, HE⟩ := hrel
    by_cases hlt : (i : Int) < jz
    · obtain ⟨rfl, hjn⟩ := h1 hlt
      have hij : i < jn := by omega
      clear h1 h2
      go_wp2_with (go_at_call 71; refine (S.swapAt hSk hds i jn rfl rfl (by omega) (by omega)).mono ?_; rintro e w2 ⟨rfl, hS2, _⟩)
      go_roundg (jn - 1 - (i + 1))
      case measure => omega
      case rel =>
        exact ⟨i + 1, jn - 1, (jn : Int) - 1, swp dk i jn, by simp, rfl, fun h => ⟨by omega, by omega⟩, fun h => by omega, Nat.le_refl _, hsize hds _ _, hS2, by
          show reverseLoop (i + 1) (jn - 1) (swp dk i jn) = _
          rw [← HE.out]; conv => rhs; rw [reverseLoop, if_pos hij]⟩
    · have hnot := h2 hlt
      clear h1 h2
      go_wp2
      go_end0
      refine ⟨rfl, ?_⟩
      rw [reverseRange, ← HE.out, reverseLoop, if_neg hnot]
      exact hSk
end
end Go.Proofs.Ytbmgjbpcijbocaa
