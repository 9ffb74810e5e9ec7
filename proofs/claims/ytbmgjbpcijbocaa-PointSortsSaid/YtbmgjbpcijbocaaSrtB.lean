/- The walks of sort.Sort's family: siftDown, heapSort. -/
import Derived.Test.YtbmgjbpcijbocaaSrtA
import Derived.Shelf.SlSortIface.HeapSort
namespace Go.Proofs.Ytbmgjbpcijbocaa
open Go.RowKit Go.Sort Go.Lib
variable {α : Type} [Inhabited α] {enc : α → Value} {lt : α → α → Bool} {W0 : World} {blk N : Nat} {rv sv : Value}

set_option maxHeartbeats 4000000 in
set_option maxRecDepth 1000000 in
theorem siftDown_any (S : Srt enc lt W0 blk N rv sv) (lo hi first : Nat) (d : Array α) (w : World) (hs : Hid (d.size = N)) (hS : St enc W0 blk d w) (hlo : lo ≤ hi) (hb : first + hi ≤ N) :
    Calls Try.prog 46 #[.iface 58 rv, .int .i64 lo, .int .i64 hi, .int .i64 first] w fun e w' => e = .returned (.tuple #[]) ∧ St enc W0 blk (siftDown lt hi first lo d) w' := by
  have hN := S.small
  have mL := S.finds.2.1
  have mS := S.finds.2.2
  have eL := enters72
  have eS := enters71
  go_enter Try.func46, Try.ntmps46
  go_wp2
  go_loopg [8] (hi - lo) (fun kx s8 wr => ∃ (root : Nat) (dk : Array α), s8 = .int .i64 root ∧ root ≤ hi ∧ hi - root ≤ kx ∧ Hid (dk.size = N) ∧ St enc W0 blk dk wr ∧ Hid (siftDown lt hi first root dk = siftDown lt hi first lo d))
  case atStart => exact ⟨lo, d, rfl, hlo, Nat.le_refl _, hs, hS, rfl⟩
  case round =>
    clear hS hs
    obtain ⟨root, dk, rfl, hr, hkx, hds, hSk, HE⟩ := hrel
    by_cases h0 : hi ≤ 2 * root + 1
    · have h0z : (hi : Int) ≤ 2 * (root : Int) + 1 := by omega
      go_wp2
      go_end0
      refine ⟨rfl, ?_⟩
      rw [← HE.out, sd_end lt dk h0]
      exact hSk
    · have h0z : ¬ ((hi : Int) ≤ 2 * (root : Int) + 1) := by omega
      by_cases h1 : 2 * root + 2 < hi
      · have h1z : 2 * (root : Int) + 1 + 1 < (hi : Int) := by omega
        cases hL : lt dk[first + (2 * root + 1)]! dk[first + (2 * root + 2)]! with
        | true =>
          have HL := Lib.hid hL
          clear hL
          cases hG : lt dk[first + root]! dk[first + (2 * root + 2)]! with
          | true =>
            have HG := Lib.hid hG
            clear hG
            go_wp2_with (first
              | (go_at_call 72; (with_reducible refine (S.lessAt hSk hds (first + (2 * root + 1)) (first + (2 * root + 2)) (x := (first : Int) + (2 * (root : Int) + 1)) (y := (first : Int) + (2 * (root : Int) + 1) + 1) (by omega) (by omega) (by omega) (by omega) HL.out).mono ?_); rintro e w1 ⟨rfl, hS1, _⟩)
              | (go_at_call 72; refine (S.lessAt hS1 hds (first + root) (first + (2 * root + 2)) (x := (first : Int) + (root : Int)) (y := (first : Int) + (2 * (root : Int) + 1 + 1)) (by omega) (by omega) (by omega) (by omega) HG.out).mono ?_; rintro e w2 ⟨rfl, hS2, _⟩)
              | (go_at_call 71; refine (S.swapAt hS2 hds (first + root) (first + (2 * root + 2)) (by omega) (by omega) (by omega) (by omega)).mono ?_; rintro e w3 ⟨rfl, hS3, _⟩))
            go_roundg (hi - (2 * root + 2))
            case measure => omega
            case rel => exact ⟨2 * root + 2, swp dk (first + root) (first + (2 * root + 2)), by go_num, by omega, Nat.le_refl _, hsize hds _ _, hS3, (show Hid _ from by rw [← HE.out, sd_right_go lt dk h1 HL.out HG.out]; exact rfl)⟩
          | false =>
            have HG := Lib.hid hG
            clear hG
            go_wp2_with (first
              | (go_at_call 72; (with_reducible refine (S.lessAt hSk hds (first + (2 * root + 1)) (first + (2 * root + 2)) (x := (first : Int) + (2 * (root : Int) + 1)) (y := (first : Int) + (2 * (root : Int) + 1) + 1) (by omega) (by omega) (by omega) (by omega) HL.out).mono ?_); rintro e w1 ⟨rfl, hS1, _⟩)
              | (go_at_call 72; refine (S.lessAt hS1 hds (first + root) (first + (2 * root + 2)) (x := (first : Int) + (root : Int)) (y := (first : Int) + (2 * (root : Int) + 1 + 1)) (by omega) (by omega) (by omega) (by omega) HG.out).mono ?_; rintro e w2 ⟨rfl, hS2, _⟩))
            (try simp only [Exit.inBlock, Exit.then]); refine bodyPost_ret (results_none rfl _ _ _) rfl ?_
            refine ⟨rfl, ?_⟩
            rw [← HE.out, sd_right_stop lt dk h1 HL.out HG.out]
            exact hS2
        | false =>
          have HL := Lib.hid hL
          clear hL
          cases hG : lt dk[first + root]! dk[first + (2 * root + 1)]! with
          | true =>
            have HG := Lib.hid hG
            clear hG
            go_wp2_with (first
              | (go_at_call 72; (with_reducible refine (S.lessAt hSk hds (first + (2 * root + 1)) (first + (2 * root + 2)) (x := (first : Int) + (2 * (root : Int) + 1)) (y := (first : Int) + (2 * (root : Int) + 1) + 1) (by omega) (by omega) (by omega) (by omega) HL.out).mono ?_); rintro e w1 ⟨rfl, hS1, _⟩)
              | (go_at_call 72; refine (S.lessAt hS1 hds (first + root) (first + (2 * root + 1)) (x := (first : Int) + (root : Int)) (y := (first : Int) + (2 * (root : Int) + 1)) (by omega) (by omega) (by omega) (by omega) HG.out).mono ?_; rintro e w2 ⟨rfl, hS2, _⟩)
              | (go_at_call 71; refine (S.swapAt hS2 hds (first + root) (first + (2 * root + 1)) (by omega) (by omega) (by omega) (by omega)).mono ?_; rintro e w3 ⟨rfl, hS3, _⟩))
            go_roundg (hi - (2 * root + 1))
            case measure => omega
            case rel => exact ⟨2 * root + 1, swp dk (first + root) (first + (2 * root + 1)), by go_num, by omega, Nat.le_refl _, hsize hds _ _, hS3, (show Hid _ from by rw [← HE.out, sd_left_go lt dk (by omega) (fun _ => HL.out) HG.out]; exact rfl)⟩
          | false =>
            have HG := Lib.hid hG
            clear hG
            go_wp2_with (first
              | (go_at_call 72; (with_reducible refine (S.lessAt hSk hds (first + (2 * root + 1)) (first + (2 * root + 2)) (x := (first : Int) + (2 * (root : Int) + 1)) (y := (first : Int) + (2 * (root : Int) + 1) + 1) (by omega) (by omega) (by omega) (by omega) HL.out).mono ?_); rintro e w1 ⟨rfl, hS1, _⟩)
              | (go_at_call 72; refine (S.lessAt hS1 hds (first + root) (first + (2 * root + 1)) (x := (first : Int) + (root : Int)) (y := (first : Int) + (2 * (root : Int) + 1)) (by omega) (by omega) (by omega) (by omega) HG.out).mono ?_; rintro e w2 ⟨rfl, hS2, _⟩))
            (try simp only [Exit.inBlock, Exit.then]); refine bodyPost_ret (results_none rfl _ _ _) rfl ?_
            refine ⟨rfl, ?_⟩
            rw [← HE.out, sd_left_stop lt dk (by omega) (fun _ => HL.out) HG.out]
            exact hS2
      · have h1z : ¬ (2 * (root : Int) + 1 + 1 < (hi : Int)) := by omega
        cases hG : lt dk[first + root]! dk[first + (2 * root + 1)]! with
        | true =>
          have HG := Lib.hid hG
          clear hG
          go_wp2_with (first
            | (go_at_call 72; refine (S.lessAt hSk hds (first + root) (first + (2 * root + 1)) (x := (first : Int) + (root : Int)) (y := (first : Int) + (2 * (root : Int) + 1)) (by omega) (by omega) (by omega) (by omega) HG.out).mono ?_; rintro e w2 ⟨rfl, hS2, _⟩)
            | (go_at_call 71; refine (S.swapAt hS2 hds (first + root) (first + (2 * root + 1)) (by omega) (by omega) (by omega) (by omega)).mono ?_; rintro e w3 ⟨rfl, hS3, _⟩))
          go_roundg (hi - (2 * root + 1))
          case measure => omega
          case rel => exact ⟨2 * root + 1, swp dk (first + root) (first + (2 * root + 1)), by go_num, by omega, Nat.le_refl _, hsize hds _ _, hS3, (show Hid _ from by rw [← HE.out, sd_left_go lt dk (by omega) (fun h => absurd h h1) HG.out]; exact rfl)⟩
        | false =>
          have HG := Lib.hid hG
          clear hG
          go_wp2_with (first
            | (go_at_call 72; refine (S.lessAt hSk hds (first + root) (first + (2 * root + 1)) (x := (first : Int) + (root : Int)) (y := (first : Int) + (2 * (root : Int) + 1)) (by omega) (by omega) (by omega) (by omega) HG.out).mono ?_; rintro e w2 ⟨rfl, hS2, _⟩))
          (try simp only [Exit.inBlock, Exit.then]); refine bodyPost_ret (results_none rfl _ _ _) rfl ?_
          refine ⟨rfl, ?_⟩
          rw [← HE.out, sd_left_stop lt dk (by omega) (fun h => absurd h h1) HG.out]
          exact hS2

set_option maxHeartbeats 4000000 in
set_option maxRecDepth 1000000 in
theorem heapSort_any (S : Srt enc lt W0 blk N rv sv) (a b : Nat) (d : Array α) (w : World) (hs : Hid (d.size = N)) (hS : St enc W0 blk d w) (hab : a ≤ b) (hb : b ≤ N) :
    Calls Try.prog 39 #[.iface 58 rv, .int .i64 a, .int .i64 b] w fun e w' => e = .returned (.tuple #[]) ∧ St enc W0 blk (heapSort lt d a b) w' := by
  have hN := S.small
  have mS := S.finds.2.2
  have eS := enters71
  have ecast : ((b - a : Nat) : Int) = (b : Int) - (a : Int) := by omega
  go_enter Try.func39, Try.ntmps39
  go_wp2
  go_loopg [9] ((b - a - 1) / 2 + 1) (fun kx s9 wr => s9 = .int .i64 ((kx : Int) - 1) ∧ kx ≤ (b - a - 1) / 2 + 1 ∧ ∃ (dk : Array α), Hid (dk.size = N) ∧ St enc W0 blk dk wr ∧
    Hid (heapBuild lt (b - a) a kx dk = heapBuild lt (b - a) a ((b - a - 1) / 2 + 1) d))
  case atStart => exact ⟨by rw [half_start hab], Nat.le_refl _, d, hs, hS, rfl⟩
  case round =>
    clear hS hs
    obtain ⟨rfl, hkk, dk, hds, hSk, HE⟩ := hrel
    cases gk with
    | zero =>
      have HB : Hid (dk = heapBuild lt (b - a) a ((b - a - 1) / 2 + 1) d) := HE.out
      clear HE hkk
      go_wp2
      go_loopg [10] (b - a) (fun kx s10 wr2 => s10 = .int .i64 ((kx : Int) - 1) ∧ kx ≤ b - a ∧ ∃ (dj : Array α), Hid (dj.size = N) ∧ St enc W0 blk dj wr2 ∧ Hid (heapPop lt a kx dj = heapPop lt a (b - a) dk))
      case atStart => exact ⟨by rw [ecast], Nat.le_refl _, dk, hds, hSk, rfl⟩
      case round =>
        clear hSk hds
        obtain ⟨rfl, hkk, dj, hdj, hSj, HE2⟩ := hrel
        cases gk with
        | zero =>
          go_wp2
          go_end0
          have e : dj = heapSort lt d a b := by rw [heapSort, ← HB.out, ← HE2.out]; rfl
          rw [← e]
          exact ⟨rfl, hSj⟩
        | succ kx =>
          go_wp2_with (first
            | (go_at_call 71; refine (S.swapAt hSj hdj a (a + kx) rfl (by omega) (by omega) (by omega)).mono ?_; rintro e w1 ⟨rfl, hS1, _⟩)
            | (go_at_call 46; refine (siftDown_any S 0 kx a (swp dj a (a + kx)) _ (hsize hdj _ _) hS1 (Nat.zero_le _) (by omega)).mono ?_; rintro e w2 ⟨rfl, hS2⟩))
          go_roundg kx
          case measure => omega
          case rel =>
            have hss : (siftDown lt kx a 0 (swp dj a (a + kx))).size = (swp dj a (a + kx)).size := size_siftDown lt _ _ _ _ _ (Nat.le_refl _)
            exact ⟨by simp, by omega, siftDown lt kx a 0 (swp dj a (a + kx)), (by rw [hss]; exact (hsize hdj _ _).out), hS2, HE2⟩
    | succ kx =>
      have hcall := siftDown_any S kx (b - a) a dk wr hds hSk (by omega) (by omega)
      rw [ecast] at hcall
      clear hSk
      go_wp2_with (go_at_call 46; refine hcall.mono ?_; rintro e w1 ⟨rfl, hS1⟩)
      go_roundg kx
      case measure => omega
      case rel =>
        have hss : (siftDown lt (b - a) a kx dk).size = dk.size := size_siftDown lt _ _ _ _ _ (Nat.le_refl _)
        exact ⟨by simp, by omega, siftDown lt (b - a) a kx dk, (by rw [hss]; exact hds.out), hS1, HE⟩
end Go.Proofs.Ytbmgjbpcijbocaa
