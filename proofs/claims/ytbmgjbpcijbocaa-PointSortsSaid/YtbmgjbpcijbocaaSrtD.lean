/- The walks of sort.Sort's family: partialInsertionSort. -/
import Derived.Test.YtbmgjbpcijbocaaSrtA
import Derived.Shelf.SlSortIface.PartialInsertion
namespace Go.Proofs.Ytbmgjbpcijbocaa
open Go.RowKit Go.Sort Go.Lib
variable {α : Type} [Inhabited α] {enc : α → Value} {lt : α → α → Bool} {W0 : World} {blk N : Nat} {rv sv : Value}

set_option maxHeartbeats 12800000 in
set_option maxRecDepth 1000000 in
theorem partialInsertionSort_any (S : Srt enc lt W0 blk N rv sv) (a b : Nat) (d : Array α) (w : World) (hs : Hid (d.size = N)) (hS : St enc W0 blk d w) (hab : a < b) (hb : b ≤ N) :
    Calls Try.prog 43 #[.iface 58 rv, .int .i64 a, .int .i64 b] w fun e w' => e = .returned (.bool (Sort.partialInsertionSort lt d a b).2) ∧ St enc W0 blk (Sort.partialInsertionSort lt d a b).1 w' := by
  have hN := S.small
  have mL := S.finds.2.1
  have mS := S.finds.2.2
  have eL := enters72
  have eS := enters71
  go_enter Try.func43, Try.ntmps43
  go_wp2
  go_loopg [7, 8] 5 (fun g1 vi vs wr => ∃ (i s : Nat) (dk : Array α), vi = .int .i64 i ∧ vs = .int .i64 s ∧ s ≤ 5 ∧ 5 - s ≤ g1 ∧ a < i ∧ i ≤ b ∧ Hid (dk.size = N) ∧ St enc W0 blk dk wr ∧ Hid (partialIns lt a b (5 - s) i dk = partialIns lt a b 5 (a + 1) d))
  case atStart => exact ⟨a + 1, 0, d, by go_num, rfl, by omega, by omega, by omega, by omega, hs, hS, rfl⟩
  case round =>
    clear hS hs
    obtain ⟨i, s, dk, rfl, rfl, hs5, hg1, hai, hib, hsk, hSk, HO⟩ := hrel
    by_cases hs5' : s < 5
    · have hsz5 : (s : Int) < 5 := by omega
      go_wp2
      go_loopg [7] (b - i) (fun g2 vi wr2 => ∃ (kx : Nat), vi = .int .i64 kx ∧ i ≤ kx ∧ kx ≤ b ∧ b - kx ≤ g2 ∧ St enc W0 blk dk wr2 ∧ Hid (scanSorted lt dk b kx = scanSorted lt dk b i))
      case atStart => exact ⟨i, rfl, Nat.le_refl _, hib, Nat.le_refl _, hSk, rfl⟩
      case round =>
        clear hSk
        obtain ⟨kx, rfl, hik, hkb, hg2, hSk, HSc⟩ := hrel
        by_cases hkb' : kx < b
        · have hkz : (kx : Int) < (b : Int) := by omega
          cases hlv : lt dk[kx]! dk[kx - 1]! with
          | false =>
            have HLV := Lib.hid hlv
            clear hlv
            go_wp2_with (first | (go_at_call 72; refine (S.lessAt hSk hsk kx (kx - 1) rfl (by omega) (by omega) (by omega) HLV.out).mono ?_; rintro e w1 ⟨rfl, hS1, _⟩))
            go_roundg (b - (kx + 1))
            case measure => omega
            case rel => exact ⟨kx + 1, by go_num, by omega, by omega, Nat.le_refl _, hS1, (show Hid _ from by rw [← HSc.out, scanSorted_go lt dk b kx hkb' HLV.out]; exact rfl)⟩
          | true =>
            have HLV := Lib.hid hlv
            clear hlv
            have HK : Hid (scanSorted lt dk b i = kx) := by show _ = _; rw [← HSc.out, scanSorted_stop lt dk b kx (Or.inr HLV.out)]
            have hkne : ((kx : Int) == (b : Int)) = false := beq_eq_false_iff_ne.2 (by omega)
            by_cases h50 : b - a < 50
            · have h50z : (b : Int) - (a : Int) < 50 := by omega
              go_wp2_with (first | (go_at_call 72; refine (S.lessAt hSk hsk kx (kx - 1) rfl (by omega) (by omega) (by omega) HLV.out).mono ?_; rintro e w1 ⟨rfl, hS1, _⟩))
              have hv : Sort.partialInsertionSort lt d a b = (dk, false) := by
                unfold Sort.partialInsertionSort
                rw [← HO.out, pi_short lt a b s i dk hs5' (by rw [HK.out]; omega) h50]
              rw [hv]
              go_ret
              exact ⟨rfl, hS1⟩
            · have h50z : ¬ ((b : Int) - (a : Int) < 50) := by omega
              have hsX := hsize hsk kx (kx - 1)
              by_cases hka : kx - a ≥ 2
              · have hkaz : (2 : Int) ≤ (kx : Int) - (a : Int) := by omega
                go_wp2_with (first | (go_at_call 72; refine (S.lessAt hSk hsk kx (kx - 1) rfl (by omega) (by omega) (by omega) HLV.out).mono ?_; rintro e w1 ⟨rfl, hS1, _⟩) | (go_at_call 71; refine (S.swapAt hS1 hsk kx (kx - 1) rfl (by omega) (by omega) (by omega)).mono ?_; rintro e w2 ⟨rfl, hS2, _⟩))
                go_loopg [9] (kx - 1) (fun g3 vj wr3 => ∃ (j : Nat) (dj : Array α), vj = .int .i64 j ∧ j ≤ kx - 1 ∧ j ≤ g3 ∧ Hid (dj.size = N) ∧ St enc W0 blk dj wr3 ∧ Hid (shiftDown lt j dj = shiftDown lt (kx - 1) (swp dk kx (kx - 1))))
                case atStart => exact ⟨kx - 1, swp dk kx (kx - 1), by congr 1; omega, Nat.le_refl _, Nat.le_refl _, hsX, hS2, rfl⟩
                case round =>
                  clear hSk hS1 hS2 HLV hsX
                  obtain ⟨j, dj, rfl, hjk, hg3, hsj, hSj, HDn⟩ := hrel
                  by_cases hj1 : 1 ≤ j
                  · have hj1z : (1 : Int) ≤ (j : Int) := by omega
                    cases hlv : lt dj[j]! dj[j - 1]! with
                    | true =>
                        have HLV := Lib.hid hlv
                        clear hlv
                        go_wp2_with (first | (go_at_call 72; refine (S.lessAt hSj hsj j (j - 1) rfl (by omega) (by omega) (by omega) HLV.out).mono ?_; rintro e w1 ⟨rfl, hSa, _⟩) | (go_at_call 71; refine (S.swapAt hSa hsj j (j - 1) rfl (by omega) (by omega) (by omega)).mono ?_; rintro e w2 ⟨rfl, hSb, _⟩))
                        go_roundg (j - 1)
                        case measure => omega
                        case rel => exact ⟨j - 1, swp dj j (j - 1), by congr 1; omega, by omega, Nat.le_refl _, hsize hsj _ _, hSb, (show Hid _ from by rw [← HDn.out, shiftDown_go lt j dj hj1 HLV.out]; exact rfl)⟩
                      | false =>
                        have HLV := Lib.hid hlv
                        clear hlv
                        have HD : Hid (fixDown lt a kx (swp dk kx (kx - 1)) = dj) := by show _ = _; unfold fixDown; rw [if_pos hka, ← HDn.out, shiftDown_stop lt j dj (Or.inr HLV.out)]
                        by_cases hbk : b - kx ≥ 2
                        · have hbkz : (2 : Int) ≤ (b : Int) - (kx : Int) := by omega
                          go_wp2_with (first | (go_at_call 72; refine (S.lessAt hSj hsj j (j - 1) rfl (by omega) (by omega) (by omega) HLV.out).mono ?_; rintro e w1 ⟨rfl, hSa0, _⟩))
                          go_loopg [10] (b - (kx + 1)) (fun g4 vj wr4 => ∃ (ju : Nat) (du : Array α), vj = .int .i64 ju ∧ kx + 1 ≤ ju ∧ ju ≤ b ∧ b - ju ≤ g4 ∧ Hid (du.size = N) ∧ St enc W0 blk du wr4 ∧ Hid (shiftUp lt b ju du = shiftUp lt b (kx + 1) dj))
                          case atStart => exact ⟨kx + 1, dj, by go_num, Nat.le_refl _, by omega, Nat.le_refl _, hsj, hSa0, rfl⟩
                          case round =>
                            obtain ⟨ju, du, rfl, hkj, hjb, hg4, hsu, hSu, HU⟩ := hrel
                            by_cases hjb' : ju < b
                            · have hjz : (ju : Int) < (b : Int) := by omega
                              cases hlv : lt du[ju]! du[ju - 1]! with
                              | true =>
                                have HLV := Lib.hid hlv
                                clear hlv
                                go_wp2_with (first | (go_at_call 72; refine (S.lessAt hSu hsu ju (ju - 1) rfl (by omega) (by omega) (by omega) HLV.out).mono ?_; rintro e w1 ⟨rfl, hSa, _⟩) | (go_at_call 71; refine (S.swapAt hSa hsu ju (ju - 1) rfl (by omega) (by omega) (by omega)).mono ?_; rintro e w2 ⟨rfl, hSb, _⟩))
                                go_roundg (b - (ju + 1))
                                case measure => omega
                                case rel => exact ⟨ju + 1, swp du ju (ju - 1), by go_num, by omega, by omega, Nat.le_refl _, hsize hsu _ _, hSb, (show Hid _ from by rw [← HU.out, shiftUp_go lt b ju du hjb' HLV.out]; exact rfl)⟩
                              | false =>
                                have HLV := Lib.hid hlv
                                clear hlv
                                go_wp2_with (first | (go_at_call 72; refine (S.lessAt hSu hsu ju (ju - 1) rfl (by omega) (by omega) (by omega) HLV.out).mono ?_; rintro e w1 ⟨rfl, hSa, _⟩))
                                go_roundg (5 - (s + 1))
                                case measure => omega
                                case rel => exact ⟨kx, s + 1, du, rfl, by go_num, by omega, Nat.le_refl _, by omega, by omega, hsu, hSa, (show Hid _ from by rw [← HO.out, pi_go lt a b s i kx dk hs5' HK.out (by omega) h50, HD.out, show fixUp lt b kx dj = du from by unfold fixUp; rw [if_pos hbk, ← HU.out, shiftUp_stop lt b ju du (Or.inr HLV.out)]]; exact rfl)⟩
                            · have hjz : ¬ (ju : Int) < (b : Int) := by omega
                              go_wp2
                              go_roundg (5 - (s + 1))
                              case measure => omega
                              case rel => exact ⟨kx, s + 1, du, rfl, by go_num, by omega, Nat.le_refl _, by omega, by omega, hsu, hSu, (show Hid _ from by rw [← HO.out, pi_go lt a b s i kx dk hs5' HK.out (by omega) h50, HD.out, show fixUp lt b kx dj = du from by unfold fixUp; rw [if_pos hbk, ← HU.out, shiftUp_stop lt b ju du (Or.inl hjb')]]; exact rfl)⟩
                        · have hbkz : ¬ (2 : Int) ≤ (b : Int) - (kx : Int) := by omega
                          go_wp2_with (first | (go_at_call 72; refine (S.lessAt hSj hsj j (j - 1) rfl (by omega) (by omega) (by omega) HLV.out).mono ?_; rintro e w1 ⟨rfl, hSa0, _⟩))
                          go_roundg (5 - (s + 1))
                          case measure => omega
                          case rel => exact ⟨kx, s + 1, dj, rfl, by go_num, by omega, Nat.le_refl _, by omega, by omega, hsj, hSa0, (show Hid _ from by rw [← HO.out, pi_go lt a b s i kx dk hs5' HK.out (by omega) h50, HD.out, show fixUp lt b kx dj = dj from by unfold fixUp; rw [if_neg hbk]]; exact rfl)⟩
                  · have hj1z : ¬ (1 : Int) ≤ (j : Int) := by omega
                    have HD : Hid (fixDown lt a kx (swp dk kx (kx - 1)) = dj) := by show _ = _; unfold fixDown; rw [if_pos hka, ← HDn.out, shiftDown_stop lt j dj (Or.inl (by omega))]
                    by_cases hbk : b - kx ≥ 2
                    · have hbkz : (2 : Int) ≤ (b : Int) - (kx : Int) := by omega
                      go_wp2
                      go_loopg [10] (b - (kx + 1)) (fun g4 vj wr4 => ∃ (ju : Nat) (du : Array α), vj = .int .i64 ju ∧ kx + 1 ≤ ju ∧ ju ≤ b ∧ b - ju ≤ g4 ∧ Hid (du.size = N) ∧ St enc W0 blk du wr4 ∧ Hid (shiftUp lt b ju du = shiftUp lt b (kx + 1) dj))
                      case atStart => exact ⟨kx + 1, dj, by go_num, Nat.le_refl _, by omega, Nat.le_refl _, hsj, hSj, rfl⟩
                      case round =>
                        obtain ⟨ju, du, rfl, hkj, hjb, hg4, hsu, hSu, HU⟩ := hrel
                        by_cases hjb' : ju < b
                        · have hjz : (ju : Int) < (b : Int) := by omega
                          cases hlv : lt du[ju]! du[ju - 1]! with
                          | true =>
                            have HLV := Lib.hid hlv
                            clear hlv
                            go_wp2_with (first | (go_at_call 72; refine (S.lessAt hSu hsu ju (ju - 1) rfl (by omega) (by omega) (by omega) HLV.out).mono ?_; rintro e w1 ⟨rfl, hSa, _⟩) | (go_at_call 71; refine (S.swapAt hSa hsu ju (ju - 1) rfl (by omega) (by omega) (by omega)).mono ?_; rintro e w2 ⟨rfl, hSb, _⟩))
                            go_roundg (b - (ju + 1))
                            case measure => omega
                            case rel => exact ⟨ju + 1, swp du ju (ju - 1), by go_num, by omega, by omega, Nat.le_refl _, hsize hsu _ _, hSb, (show Hid _ from by rw [← HU.out, shiftUp_go lt b ju du hjb' HLV.out]; exact rfl)⟩
                          | false =>
                            have HLV := Lib.hid hlv
                            clear hlv
                            go_wp2_with (first | (go_at_call 72; refine (S.lessAt hSu hsu ju (ju - 1) rfl (by omega) (by omega) (by omega) HLV.out).mono ?_; rintro e w1 ⟨rfl, hSa, _⟩))
                            go_roundg (5 - (s + 1))
                            case measure => omega
                            case rel => exact ⟨kx, s + 1, du, rfl, by go_num, by omega, Nat.le_refl _, by omega, by omega, hsu, hSa, (show Hid _ from by rw [← HO.out, pi_go lt a b s i kx dk hs5' HK.out (by omega) h50, HD.out, show fixUp lt b kx dj = du from by unfold fixUp; rw [if_pos hbk, ← HU.out, shiftUp_stop lt b ju du (Or.inr HLV.out)]]; exact rfl)⟩
                        · have hjz : ¬ (ju : Int) < (b : Int) := by omega
                          go_wp2
                          go_roundg (5 - (s + 1))
                          case measure => omega
                          case rel => exact ⟨kx, s + 1, du, rfl, by go_num, by omega, Nat.le_refl _, by omega, by omega, hsu, hSu, (show Hid _ from by rw [← HO.out, pi_go lt a b s i kx dk hs5' HK.out (by omega) h50, HD.out, show fixUp lt b kx dj = du from by unfold fixUp; rw [if_pos hbk, ← HU.out, shiftUp_stop lt b ju du (Or.inl hjb')]]; exact rfl)⟩
                    · have hbkz : ¬ (2 : Int) ≤ (b : Int) - (kx : Int) := by omega
                      go_wp2
                      go_roundg (5 - (s + 1))
                      case measure => omega
                      case rel => exact ⟨kx, s + 1, dj, rfl, by go_num, by omega, Nat.le_refl _, by omega, by omega, hsj, hSj, (show Hid _ from by rw [← HO.out, pi_go lt a b s i kx dk hs5' HK.out (by omega) h50, HD.out, show fixUp lt b kx dj = dj from by unfold fixUp; rw [if_neg hbk]]; exact rfl)⟩
              · have hkaz : ¬ (2 : Int) ≤ (kx : Int) - (a : Int) := by omega
                have HD : Hid (fixDown lt a kx (swp dk kx (kx - 1)) = (swp dk kx (kx - 1))) := by show _ = _; unfold fixDown; rw [if_neg hka]
                by_cases hbk : b - kx ≥ 2
                · have hbkz : (2 : Int) ≤ (b : Int) - (kx : Int) := by omega
                  go_wp2_with (first | (go_at_call 72; refine (S.lessAt hSk hsk kx (kx - 1) rfl (by omega) (by omega) (by omega) HLV.out).mono ?_; rintro e w1 ⟨rfl, hS1, _⟩) | (go_at_call 71; refine (S.swapAt hS1 hsk kx (kx - 1) rfl (by omega) (by omega) (by omega)).mono ?_; rintro e w2 ⟨rfl, hS2, _⟩))
                  go_loopg [10] (b - (kx + 1)) (fun g4 vj wr4 => ∃ (ju : Nat) (du : Array α), vj = .int .i64 ju ∧ kx + 1 ≤ ju ∧ ju ≤ b ∧ b - ju ≤ g4 ∧ Hid (du.size = N) ∧ St enc W0 blk du wr4 ∧ Hid (shiftUp lt b ju du = shiftUp lt b (kx + 1) (swp dk kx (kx - 1))))
                  case atStart => exact ⟨kx + 1, (swp dk kx (kx - 1)), by go_num, Nat.le_refl _, by omega, Nat.le_refl _, hsX, hS2, rfl⟩
                  case round =>
                    obtain ⟨ju, du, rfl, hkj, hjb, hg4, hsu, hSu, HU⟩ := hrel
                    by_cases hjb' : ju < b
                    · have hjz : (ju : Int) < (b : Int) := by omega
                      cases hlv : lt du[ju]! du[ju - 1]! with
                      | true =>
                        have HLV := Lib.hid hlv
                        clear hlv
                        go_wp2_with (first | (go_at_call 72; refine (S.lessAt hSu hsu ju (ju - 1) rfl (by omega) (by omega) (by omega) HLV.out).mono ?_; rintro e w1 ⟨rfl, hSa, _⟩) | (go_at_call 71; refine (S.swapAt hSa hsu ju (ju - 1) rfl (by omega) (by omega) (by omega)).mono ?_; rintro e w2 ⟨rfl, hSb, _⟩))
                        go_roundg (b - (ju + 1))
                        case measure => omega
                        case rel => exact ⟨ju + 1, swp du ju (ju - 1), by go_num, by omega, by omega, Nat.le_refl _, hsize hsu _ _, hSb, (show Hid _ from by rw [← HU.out, shiftUp_go lt b ju du hjb' HLV.out]; exact rfl)⟩
                      | false =>
                        have HLV := Lib.hid hlv
                        clear hlv
                        go_wp2_with (first | (go_at_call 72; refine (S.lessAt hSu hsu ju (ju - 1) rfl (by omega) (by omega) (by omega) HLV.out).mono ?_; rintro e w1 ⟨rfl, hSa, _⟩))
                        go_roundg (5 - (s + 1))
                        case measure => omega
                        case rel => exact ⟨kx, s + 1, du, rfl, by go_num, by omega, Nat.le_refl _, by omega, by omega, hsu, hSa, (show Hid _ from by rw [← HO.out, pi_go lt a b s i kx dk hs5' HK.out (by omega) h50, HD.out, show fixUp lt b kx (swp dk kx (kx - 1)) = du from by unfold fixUp; rw [if_pos hbk, ← HU.out, shiftUp_stop lt b ju du (Or.inr HLV.out)]]; exact rfl)⟩
                    · have hjz : ¬ (ju : Int) < (b : Int) := by omega
                      go_wp2
                      go_roundg (5 - (s + 1))
                      case measure => omega
                      case rel => exact ⟨kx, s + 1, du, rfl, by go_num, by omega, Nat.le_refl _, by omega, by omega, hsu, hSu, (show Hid _ from by rw [← HO.out, pi_go lt a b s i kx dk hs5' HK.out (by omega) h50, HD.out, show fixUp lt b kx (swp dk kx (kx - 1)) = du from by unfold fixUp; rw [if_pos hbk, ← HU.out, shiftUp_stop lt b ju du (Or.inl hjb')]]; exact rfl)⟩
                · have hbkz : ¬ (2 : Int) ≤ (b : Int) - (kx : Int) := by omega
                  exfalso; omega
        · obtain rfl : kx = b := by omega
          have hkz : ¬ (kx : Int) < (kx : Int) := by omega
          go_wp2
          have hv : Sort.partialInsertionSort lt d a kx = (dk, true) := by
            unfold Sort.partialInsertionSort
            rw [← HO.out, pi_true lt a kx s i dk hs5' (by rw [← HSc.out, scanSorted_stop lt dk kx kx (Or.inl (by omega))])]
          rw [hv]
          go_ret
          exact ⟨rfl, hSk⟩
    · obtain rfl : s = 5 := by omega
      go_wp2
      have hv : Sort.partialInsertionSort lt d a b = (dk, false) := by
        unfold Sort.partialInsertionSort
        rw [← HO.out, pi_end]
      rw [hv]
      go_ret
      exact ⟨rfl, hSk⟩
end Go.Proofs.Ytbmgjbpcijbocaa
