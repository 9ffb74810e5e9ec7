/- The walks of sort.Sort's family: choosePivot. -/
import Derived.Test.YtbmgjbpcijbocaaSrtE
import Derived.Sort.LotD4
namespace Go.Proofs.Ytbmgjbpcijbocaa
open Go.RowKit Go.Sort Go.Lib
variable {α : Type} [Inhabited α] {enc : α → Value} {lt : α → α → Bool} {W0 : World} {blk N : Nat} {rv sv : Value}

theorem ctr_new (W : World) (t : TypeId) : Ctr W.heap.size 0 (W.alloc (.cells #[.int .i64 0] t)) := ⟨by go_simp, by go_simp⟩
theorem St.alloc {d : Array α} {W : World} (h : St enc W0 blk d W) (o : Obj) : St enc W0 blk d (W.alloc o) := h.below ((RowKit.Below.refl _ _).alloc (Nat.le_refl _) _)

set_option maxHeartbeats 2000000 in
set_option maxRecDepth 100000 in
theorem choosePivot_any (S : Srt enc lt W0 blk N rv sv) (a b : Nat) (d : Array α) (W : World) (hd : Hid (d.size = N)) (hS : St enc W0 blk d W) (hab : a < b) (hb : b ≤ N) :
    Calls Try.prog 41 #[.iface 58 rv, .int .i64 a, .int .i64 b] W fun e w' => e = .returned (.tuple #[.int .i64 (choosePivot lt d a b).1, .int .i64 (hintCode (choosePivot lt d a b).2)]) ∧ St enc W0 blk d w' := by
  have hN := S.small
  have hcb : W0.heap.size ≤ W.heap.size := hS.1.size
  have hS0 := hS.alloc (.cells #[.int .i64 0] 3)
  have hC0 := ctr_new W 3
  have MA := fun W' (x s : Nat) (h1 : 1 ≤ x) (h2 : x + 1 < N) (hs : s + 3 < 4611686018427387904) (hS' : St enc W0 blk d W') (hC' : Ctr W.heap.size s W') => medianAdjacent_any S W' d x W.heap.size s hd hS' h1 h2 hC' hcb hs
  have MD := fun W' (x y z s : Nat) (h1 : x < N) (h2 : y < N) (h3 : z < N) (hs : s + 3 < 4611686018427387904) (hS' : St enc W0 blk d W') (hC' : Ctr W.heap.size s W') => median_any S W' d x y z W.heap.size s hd hS' h1 h2 h3 hC' hcb hs
  clear hS hcb
  rw [choosePivot_eq]
  obtain ⟨I, hI⟩ : ∃ I : Nat, I = a + (b - a) / 4 * 1 := ⟨_, rfl⟩
  obtain ⟨J, hJ⟩ : ∃ J : Nat, J = a + (b - a) / 4 * 2 := ⟨_, rfl⟩
  obtain ⟨K, hK⟩ : ∃ K : Nat, K = a + (b - a) / 4 * 3 := ⟨_, rfl⟩
  have eI : ((a : Int) + ((b : Int) - (a : Int)) / 4) = (I : Int) := by omega
  have eJ : ((a : Int) + ((b : Int) - (a : Int)) / 4 * 2) = (J : Int) := by omega
  have eK : ((a : Int) + ((b : Int) - (a : Int)) / 4 * 3) = (K : Int) := by omega
  by_cases h8 : b - a ≥ 8
  · by_cases h50 : b - a ≥ 50
    · obtain ⟨i1, s1, h1⟩ : ∃ i1 s1, medianAdjacent lt d I 0 = (i1, s1) := ⟨_, _, rfl⟩
      obtain ⟨j1, s2, h2⟩ : ∃ j1 s2, medianAdjacent lt d J s1 = (j1, s2) := ⟨_, _, rfl⟩
      obtain ⟨k1, s3, h3⟩ : ∃ k1 s3, medianAdjacent lt d K s2 = (k1, s3) := ⟨_, _, rfl⟩
      obtain ⟨p, s, h4⟩ : ∃ p s, median lt d i1 j1 k1 s3 = (p, s) := ⟨_, _, rfl⟩
      have hraw : rawPivot lt d a b = (p, s) := by simp only [rawPivot, if_pos h8, if_pos h50, ← hI, ← hJ, ← hK, h1, h2, h3, h4]
      have m1 := medianAdjacent_mem lt d I 0; rw [h1] at m1
      have m2 := medianAdjacent_mem lt d J s1; rw [h2] at m2
      have m3 := medianAdjacent_mem lt d K s2; rw [h3] at m3
      have n1 := medianAdjacent_count lt d I 0; rw [h1] at n1
      have n2 := medianAdjacent_count lt d J s1; rw [h2] at n2
      have n3 := medianAdjacent_count lt d K s2; rw [h3] at n3
      simp only [] at m1 m2 m3 n1 n2 n3
      have c1 := MA _ I 0 (by omega) (by omega) (by omega) hS0 hC0
      rw [h1] at c1
      have c2 := fun W' => MA W' J s1 (by omega) (by omega) (by omega)
      rw [h2] at c2
      have c3 := fun W' => MA W' K s2 (by omega) (by omega) (by omega)
      rw [h3] at c3
      have c4 := fun W' => MD W' i1 j1 k1 s3 (by omega) (by omega) (by omega) (by omega)
      rw [h4] at c4
      rw [hraw]
      obtain ⟨Hc, hHc⟩ : ∃ Hc : Int, Hc = hintCode (hintOf s) := ⟨_, rfl⟩
      have hh0 : s = 0 → Hc = 1 := fun h => by rw [hHc, h]; rfl
      have hh12 : s = 12 → Hc = 2 := fun h => by rw [hHc, h]; rfl
      have hhx : s ≠ 0 → s ≠ 12 → Hc = 0 := fun h1 h2 => by rw [hHc]; unfold hintOf; rw [if_neg h1, if_neg h2]; rfl
      show Calls Try.prog 41 _ W fun e w' => e = .returned (.tuple #[.int .i64 (p : Int), .int .i64 (hintCode (hintOf s))]) ∧ St enc W0 blk d w'
      rw [← hHc]
      have C1 := Lib.hid c1
      have C2 := Lib.hid c2
      have C3 := Lib.hid c3
      have C4 := Lib.hid c4
      clear hHc hraw c1 c2 c3 c4 h1 h2 h3 h4 MA MD hI hJ hK m1 m2 m3 hS0 hC0
      go_enter Try.func41, Try.ntmps41
      go_wp2_with (first
        | (go_at_call 49; (with_reducible refine C1.out.mono ?_); rintro e w1 ⟨rfl, hS1, hC1⟩)
        | (go_at_call 49; (with_reducible refine (C2.out _ hS1 hC1).mono ?_); rintro e w2 ⟨rfl, hS2, hC2⟩)
        | (go_at_call 49; (with_reducible refine (C3.out _ hS2 hC2).mono ?_); rintro e w3 ⟨rfl, hS3, hC3⟩)
        | (go_at_call 50; (with_reducible refine (C4.out _ hS3 hC3).mono ?_); rintro e w4 ⟨rfl, hS4, hC4⟩; obtain ⟨cc, cf⟩ := id hC4))
      all_goals
        go_ret2
        refine ⟨?_, hS4⟩
        first
          | (have e0 : (s : Int) = 0 := of_beq_int (by assumption)
             rw [hh0 (by omega)]; rfl)
          | (have e1 : (s : Int) = 12 := of_beq_int (by assumption)
             rw [hh12 (by omega)]; rfl)
          | (have e0 : (s : Int) ≠ 0 := of_bne_int (by assumption)
             have e1 : (s : Int) ≠ 12 := of_bne_int (by assumption)
             rw [hhx (by omega) (by omega)]; rfl)
          | (rw [hh0 (by omega)]; rfl)
    · obtain ⟨p, s, h4⟩ : ∃ p s, median lt d I J K 0 = (p, s) := ⟨_, _, rfl⟩
      have hraw : rawPivot lt d a b = (p, s) := by simp only [rawPivot, if_pos h8, if_neg h50, ← hI, ← hJ, ← hK, h4]
      have c4 := MD _ I J K 0 (by omega) (by omega) (by omega) (by omega) hS0 hC0
      rw [h4] at c4
      rw [hraw]
      obtain ⟨Hc, hHc⟩ : ∃ Hc : Int, Hc = hintCode (hintOf s) := ⟨_, rfl⟩
      have hh0 : s = 0 → Hc = 1 := fun h => by rw [hHc, h]; rfl
      have hh12 : s = 12 → Hc = 2 := fun h => by rw [hHc, h]; rfl
      have hhx : s ≠ 0 → s ≠ 12 → Hc = 0 := fun h1 h2 => by rw [hHc]; unfold hintOf; rw [if_neg h1, if_neg h2]; rfl
      show Calls Try.prog 41 _ W fun e w' => e = .returned (.tuple #[.int .i64 (p : Int), .int .i64 (hintCode (hintOf s))]) ∧ St enc W0 blk d w'
      rw [← hHc]
      have C4 := Lib.hid c4
      clear hHc hraw c4 h4 MA MD hI hJ hK hS0 hC0
      go_enter Try.func41, Try.ntmps41
      go_wp2_with (go_at_call 50; (with_reducible refine C4.out.mono ?_); rintro e w4 ⟨rfl, hS4, hC4⟩; obtain ⟨cc, cf⟩ := id hC4)
      all_goals
        go_ret2
        refine ⟨?_, hS4⟩
        first
          | (have e0 : (s : Int) = 0 := of_beq_int (by assumption)
             rw [hh0 (by omega)]; rfl)
          | (have e1 : (s : Int) = 12 := of_beq_int (by assumption)
             rw [hh12 (by omega)]; rfl)
          | (have e0 : (s : Int) ≠ 0 := of_bne_int (by assumption)
             have e1 : (s : Int) ≠ 12 := of_bne_int (by assumption)
             rw [hhx (by omega) (by omega)]; rfl)
          | (rw [hh0 (by omega)]; rfl)
  · have hraw : rawPivot lt d a b = (J, 0) := by simp only [rawPivot, if_neg h8, ← hJ]
    rw [hraw]
    show Calls Try.prog 41 _ W fun e w' => e = .returned (.tuple #[.int .i64 (J : Int), .int .i64 1]) ∧ St enc W0 blk d w'
    clear hraw MA MD hI hJ hK hC0
    go_enter Try.func41, Try.ntmps41
    go_wp2
    go_ret2
    exact ⟨rfl, hS0⟩
end Go.Proofs.Ytbmgjbpcijbocaa
