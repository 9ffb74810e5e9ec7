/- The walks of sort.Sort's family: pdqsort, and Sort: the row is sorted, a permutation of what it was. -/
import Derived.Test.YtbmgjbpcijbocaaSrtB
import Derived.Test.YtbmgjbpcijbocaaSrtC
import Derived.Test.YtbmgjbpcijbocaaSrtD
import Derived.Test.YtbmgjbpcijbocaaSrtF
import Derived.Test.YtbmgjbpcijbocaaSrtG
import Derived.Shelf.GgSortMore.SortSort
namespace Go.Proofs.Ytbmgjbpcijbocaa
open Go.RowKit Go.Sort Go.Lib
variable {α : Type} [Inhabited α] {enc : α → Value} {lt : α → α → Bool} {W0 : World} {blk N : Nat} {rv sv : Value}

set_option maxHeartbeats 12800000 in
set_option maxRecDepth 1000000 in
theorem pdqsort_any (S : Srt enc lt W0 blk N rv sv) (hO : SWO lt) :
    ∀ (n a b limit : Nat) (d : Array α) (w : World), b - a < n → Hid (d.size = N) → St enc W0 blk d w → a ≤ b → b ≤ N → limit < 4611686018427387904 → Go.Sort.Below lt a b d →
    Calls Try.prog 35 #[.iface 58 rv, .int .i64 a, .int .i64 b, .int .i64 limit] w fun e w' => e = .returned (.tuple #[]) ∧ St enc W0 blk (pdq lt d a b limit true true) w' := by
  have hN := S.small
  have mL := S.finds.2.1
  have eL := enters72
  intro n
  induction n with
  | zero => intro _ _ _ _ _ h; exact absurd h (Nat.not_lt_zero _)
  | succ n ih =>
    intro a b limit d w hn hd hS hab hb hlimit hBel0
    have IH := Lib.hid ih
    clear ih
    go_enter Try.func35, Try.ntmps35
    go_wp2
    go_loopg [1, 2, 3, 8, 9] (b - a) (fun k s1 s2 s3 s8 s9 wr => ∃ (a' b' lim : Nat) (wb wp : Bool) (dk : Array α), s1 = .int .i64 a' ∧ s2 = .int .i64 b' ∧ s3 = .int .i64 lim ∧ s8 = .bool wb ∧ s9 = .bool wp ∧
      a' ≤ b' ∧ b' ≤ N ∧ b' - a' ≤ k ∧ k ≤ b - a ∧ lim ≤ limit ∧ Hid (dk.size = N) ∧ Go.Sort.Below lt a' b' dk ∧ St enc W0 blk dk wr ∧ Hid (pdq lt dk a' b' lim wb wp = pdq lt d a b limit true true))
    case atStart => exact ⟨a, b, limit, true, true, d, rfl, rfl, rfl, rfl, rfl, hab, hb, Nat.le_refl _, Nat.le_refl _, Nat.le_refl _, hd, hBel0, hS, rfl⟩
    case round =>
      clear hS hd hBel0
      obtain ⟨a', b', lim, wb, wp, dk, rfl, rfl, rfl, rfl, rfl, hab', hb', hk, hkN, hlim, hds, hBel, hAt, A⟩ := hrel
      by_cases h12 : b' - a' ≤ 12
      · have h12z : (b' : Int) - (a' : Int) ≤ 12 := by omega
        clear hBel
        go_wp2_with (go_at_call 38; refine (insertionSort_any S a' b' dk _ hds hAt hab' hb').mono ?_; rintro e w1 ⟨rfl, hw1⟩)
        (try simp only [Exit.inBlock, Exit.then]); refine bodyPost_ret (results_none rfl _ _ _) rfl ?_
        refine ⟨rfl, ?_⟩
        rw [← A.out, pdq_small h12]
        exact hw1
      · have h12z : ¬ ((b' : Int) - (a' : Int) ≤ 12) := by omega
        by_cases hl0 : lim = 0
        · subst hl0
          clear hBel
          go_wp2_with (go_at_call 39; refine (heapSort_any S a' b' dk _ hds hAt hab' hb').mono ?_; rintro e w1 ⟨rfl, hw1⟩)
          (try simp only [Exit.inBlock, Exit.then]); refine bodyPost_ret (results_none rfl _ _ _) rfl ?_
          refine ⟨rfl, ?_⟩
          rw [← A.out, pdq_heap h12 rfl]
          exact hw1
        · have hl0z : ¬ ((lim : Int) = 0) := by omega
          obtain ⟨s1, B1, hc1, s2, B2, hpv, s3, B3⟩ := rd_facts (lt := lt) (limit := lim) (wb := wb) (wp := wp) hO partialInsertionSort_holds reverseRange_holds (show a' < b' by omega) (show b' ≤ dk.size by rw [hds.out]; exact hb') hBel
          have h1s : Hid ((rd lt dk a' b' lim wb wp).d1.size = N) := s1.trans hds.out
          have h2s : Hid ((rd lt dk a' b' lim wb wp).d2.size = N) := s2.trans hds.out
          have h3s : Hid ((rd lt dk a' b' lim wb wp).pi.1.size = N) := s3.trans hds.out
          have hB3 := Lib.hid B3
          clear s1 B1 s2 B2 s3 B3 hBel
          go_upto_if 35 with fail
          go_cut [3] from 19 (fun s3 wc => s3 = .int .i64 (rd lt dk a' b' lim wb wp).lim ∧ St enc W0 blk (rd lt dk a' b' lim wb wp).d1 wc)
          case first =>
            cases wb
            · go_wp2_with (go_at_call 40; refine (breakPatterns_any S a' b' dk _ hds hAt hab' hb').mono ?_; rintro e w1 ⟨rfl, hw1⟩)
              go_meet
              case rel =>
                refine ⟨?_, hw1⟩
                show Value.int .i64 ((lim : Int) - 1) = Value.int .i64 ((lim - 1 : Nat) : Int)
                congr 1
                omega
            · go_wp2_with fail
              go_meet
              case rel => exact ⟨rfl, hAt⟩
          case rest =>
            clear hAt
            obtain ⟨rfl, hAt1⟩ := hcut
            have hc17 : Calls Try.prog 41 #[.iface 58 rv, .int .i64 a', .int .i64 b'] wc fun e w' => e = .returned (.tuple #[.int .i64 (rd lt dk a' b' lim wb wp).c.1, .int .i64 (hintCode (rd lt dk a' b' lim wb wp).c.2)]) ∧ St enc W0 blk (rd lt dk a' b' lim wb wp).d1 w' :=
              choosePivot_any S a' b' (rd lt dk a' b' lim wb wp).d1 wc h1s hAt1 (by omega) hb'
            go_upto_if 50 with (go_at_call 41; refine hc17.mono ?_; rintro e w2 ⟨rfl, hAt2⟩)
            go_cut [11, 12] from 19 (fun s11 s12 wc => s11 = .int .i64 (rd lt dk a' b' lim wb wp).pivot ∧ s12 = .int .i64 (hintCode (rd lt dk a' b' lim wb wp).hint) ∧ St enc W0 blk (rd lt dk a' b' lim wb wp).d2 wc)
            case first =>
              by_cases hh : (rd lt dk a' b' lim wb wp).c.2 = .decreasing
              · have hcode : hintCode (rd lt dk a' b' lim wb wp).c.2 = 2 := by rw [hh]; rfl
                obtain ⟨e2, epv, eht⟩ := rd_dec hh
                have E2 := Lib.hid e2
                have EPV := Lib.hid epv
                have EHT := Lib.hid eht
                clear e2 epv eht hh
                go_wp2_with (go_at_call 42; refine (reverseRange_any S a' b' (rd lt dk a' b' lim wb wp).d1 _ h1s hAt2 hab' hb').mono ?_; rintro e w3 ⟨rfl, hw3⟩)
                go_meet
                case rel =>
                  refine ⟨?_, by rw [EHT.out]; rfl, by rw [E2.out]; exact hw3⟩
                  rw [EPV.out]
                  congr 1
                  omega
              · have hcode : ¬ (hintCode (rd lt dk a' b' lim wb wp).c.2 = 2) := fun h => hh (hintCode_two h)
                obtain ⟨e2, epv, eht⟩ := rd_not hh
                have E2 := Lib.hid e2
                have EPV := Lib.hid epv
                have EHT := Lib.hid eht
                clear e2 epv eht hh
                go_wp2_with fail
                go_meet
                case rel => exact ⟨by rw [EPV.out], by rw [EHT.out], by rw [E2.out]; exact hAt2⟩
            case rest =>
              clear hAt1 hc17 hAt2
              obtain ⟨rfl, rfl, hAt3⟩ := hcut
              go_upto_region 15 with fail
              go_cut [12, 68] from 19 (fun s12 s68 wx => s12 = .int .i64 (hintCode (rd lt dk a' b' lim wb wp).hint) ∧ s68 = .bool (wb && wp && decide ((rd lt dk a' b' lim wb wp).hint = .increasing)) ∧ wx = wc)
              case first =>
                cases wb <;> cases wp <;> cases hh3 : (rd lt dk a' b' lim _ _).hint <;>
                  (have hcode3 := congrArg hintCode hh3
                   simp only [hintCode] at hcode3
                   go_wp2_with fail
                   go_meet
                   exact ⟨by simp [hh3, hintCode], by simp [hh3, hintCode], rfl⟩)
              case rest =>
                obtain ⟨rfl, rfl, rfl⟩ := hcut
                go_upto_if 68 with fail
                go_cut [] from 19 (fun wx => (rd lt dk a' b' lim wb wp).pi.2 = false ∧ St enc W0 blk (rd lt dk a' b' lim wb wp).pi.1 wx)
                case first =>
                  cases h68 : (wb && wp && decide ((rd lt dk a' b' lim wb wp).hint = .increasing))
                  · have epi := rd_pi_no h68
                    have EPI := Lib.hid epi
                    clear epi
                    go_wp2_with fail
                    go_meet
                    case rel => exact ⟨by rw [EPI.out], by rw [EPI.out]; exact hAt3⟩
                  · have epi := rd_pi_yes h68
                    have hc19 := partialInsertionSort_any S a' b' (rd lt dk a' b' lim wb wp).d2 _ h2s hAt3 (by omega) hb'
                    rw [← epi] at hc19
                    have EPI := Lib.hid epi
                    clear epi
                    go_wp2_with (go_at_call 43; refine hc19.mono ?_; rintro e w4 ⟨rfl, hw4⟩)
                    all_goals first
                      | (have hp2 : (rd lt dk a' b' lim wb wp).pi.2 = false := by assumption
                         go_meet
                         exact ⟨hp2, hw4⟩)
                      | (have hp2 : (rd lt dk a' b' lim wb wp).pi.2 = true := by assumption
                         (try simp only [Exit.inBlock, Exit.then]); refine bodyPost_ret (results_none rfl _ _ _) rfl ?_
                         refine ⟨rfl, ?_⟩
                         rw [← A.out, pdq_done h12 hl0 hp2]
                         exact hw4)
                case rest =>
                  clear hAt3
                  obtain ⟨hp2, hAt5⟩ := hcut
                  have HP2 := Lib.hid hp2
                  clear hp2
                  go_upto_region 17 with fail
                  go_cut [82] from 19 (fun s82 wx => s82 = .bool (decide (a' > 0) && !lt (rd lt dk a' b' lim wb wp).pi.1[a' - 1]! (rd lt dk a' b' lim wb wp).pi.1[(rd lt dk a' b' lim wb wp).pivot]!) ∧ St enc W0 blk (rd lt dk a' b' lim wb wp).pi.1 wx)
                  case first =>
                    rcases Nat.eq_zero_or_pos a' with ha0 | ha0
                    · have ha0z : decide ((a' : Int) > 0) = false := decide_eq_false (by omega)
                      go_wp2_with fail
                      go_meet
                      case rel => exact ⟨by simp [ha0], hAt5⟩
                    · have ha0z : (a' : Int) > 0 := by omega
                      cases hlv : lt (rd lt dk a' b' lim wb wp).pi.1[a' - 1]! (rd lt dk a' b' lim wb wp).pi.1[(rd lt dk a' b' lim wb wp).pivot]! <;>
                        (have HLV := Lib.hid hlv
                         clear hlv
                         have hl := S.lessAt hAt5 h3s (a' - 1) (rd lt dk a' b' lim wb wp).pivot (x := (a' : Int) - 1) (y := ((rd lt dk a' b' lim wb wp).pivot : Int)) (by omega) rfl (by omega) (Nat.lt_of_lt_of_le hpv.2 hb') HLV.out
                         go_wp2_with (go_at_call 72; refine hl.mono ?_; rintro e w' ⟨rfl, hAt5', _⟩)
                         go_meet
                         exact ⟨by simp [ha0, HLV.out], hAt5'⟩)
                  case rest =>
                    clear hAt5
                    obtain ⟨rfl, hAt6⟩ := hcut
                    cases h87 : (decide (a' > 0) && !lt (rd lt dk a' b' lim wb wp).pi.1[a' - 1]! (rd lt dk a' b' lim wb wp).pi.1[(rd lt dk a' b' lim wb wp).pivot]!)
                    · obtain ⟨mid, ap, d4, hx⟩ : ∃ mid ap d4, partition lt (rd lt dk a' b' lim wb wp).pi.1 a' b' (rd lt dk a' b' lim wb wp).pivot = (mid, ap, d4) := ⟨(partition lt (rd lt dk a' b' lim wb wp).pi.1 a' b' (rd lt dk a' b' lim wb wp).pivot).1, (partition lt (rd lt dk a' b' lim wb wp).pi.1 a' b' (rd lt dk a' b' lim wb wp).pivot).2.1, (partition lt (rd lt dk a' b' lim wb wp).pi.1 a' b' (rd lt dk a' b' lim wb wp).pivot).2.2, rfl⟩
                      obtain ⟨r1, r2, r3, r4, r5, r6, r7⟩ := round_part hO (partition_holds lt) hpv.1 hpv.2 (show b' ≤ (rd lt dk a' b' lim wb wp).pi.1.size by rw [h3s.out]; exact hb') hB3.out hx
                      have hc22 := partition_any S a' b' (rd lt dk a' b' lim wb wp).pivot (rd lt dk a' b' lim wb wp).pi.1 wc h3s hAt6 hpv.1 hpv.2 hb'
                      rw [hx] at hc22
                      have X : Hid (partition lt (rd lt dk a' b' lim wb wp).pi.1 a' b' (rd lt dk a' b' lim wb wp).pivot = (mid, ap, d4)) := hx
                      have hs4 : Hid (d4.size = N) := r3.trans h3s.out
                      have R4 := Lib.hid r4
                      have R5 := Lib.hid r5
                      have R6 := Lib.hid r6
                      have R7 := Lib.hid r7
                      have H87 := Lib.hid h87
                      clear hx r3 r4 r5 r6 r7
                      go_upto_if 108 with (go_at_call 45; refine hc22.mono ?_; rintro e w7 ⟨rfl, hAt7⟩)
                      by_cases h4 : mid - a' < b' - mid
                      · have h4z : (mid : Int) - (a' : Int) < (b' : Int) - (mid : Int) := by omega
                        have hih := IH.out a' mid (rd lt dk a' b' lim wb wp).lim d4 w7 (by omega) hs4 hAt7 (by omega) (by omega) (Nat.lt_of_le_of_lt (Nat.le_trans rd_lim_le hlim) hlimit) R4.out
                        obtain ⟨pL, sL⟩ := pdq_sorts lt hO d4 a' mid (rd lt dk a' b' lim wb wp).lim true true (by omega) (by rw [hs4.out]; omega) R4.out
                        have PL := Lib.hid pL
                        have SL := Lib.hid sL
                        clear pL sL hAt7
                        go_wp2_with (go_at_call 35; refine hih.mono ?_; rintro e w8 ⟨rfl, hw8⟩)
                        go_roundg (b' - (mid + 1))
                        case measure => omega
                        case rel =>
                          have hx := X.out
                          refine ⟨mid + 1, b', (rd lt dk a' b' lim wb wp).lim, decide (mid - a' ≥ (b' - a') / 8), ap, pdq lt d4 a' mid (rd lt dk a' b' lim wb wp).lim true true, by simp, rfl, rfl, ?_, rfl, by omega, by omega, Nat.le_refl _, by omega, Nat.le_trans rd_lim_le hlim, PL.out.1.trans hs4.out, (R6.out _ PL.out SL.out).1, hw8, ?_⟩
                          · exact congrArg Value.bool (eighth (by omega) (by omega))
                          · show pdq lt _ _ _ _ _ _ = _
                            rw [← A.out, pdq_left h12 hl0 HP2.out H87.out (by rw [hx]; exact ⟨r1, r2⟩) (by rw [hx]; exact h4), hx]
                      · have h4z : ¬ ((mid : Int) - (a' : Int) < (b' : Int) - (mid : Int)) := by omega
                        have hih := IH.out (mid + 1) b' (rd lt dk a' b' lim wb wp).lim d4 w7 (by omega) hs4 hAt7 (by omega) (by omega) (Nat.lt_of_le_of_lt (Nat.le_trans rd_lim_le hlim) hlimit) R5.out
                        rw [show ((mid + 1 : Nat) : Int) = (mid : Int) + 1 by omega] at hih
                        obtain ⟨pL, sL⟩ := pdq_sorts lt hO d4 (mid + 1) b' (rd lt dk a' b' lim wb wp).lim true true (by omega) (by rw [hs4.out]; omega) R5.out
                        have PL := Lib.hid pL
                        have SL := Lib.hid sL
                        clear pL sL hAt7
                        go_wp2_with (go_at_call 35; refine hih.mono ?_; rintro e w8 ⟨rfl, hw8⟩)
                        go_roundg (mid - a')
                        case measure => omega
                        case rel =>
                          have hx := X.out
                          refine ⟨a', mid, (rd lt dk a' b' lim wb wp).lim, decide (b' - mid ≥ (b' - a') / 8), ap, pdq lt d4 (mid + 1) b' (rd lt dk a' b' lim wb wp).lim true true, rfl, rfl, rfl, ?_, rfl, by omega, by omega, Nat.le_refl _, by omega, Nat.le_trans rd_lim_le hlim, PL.out.1.trans hs4.out, (R7.out _ PL.out SL.out).1, hw8, ?_⟩
                          · exact congrArg Value.bool (eighth (by omega) (by omega))
                          · show pdq lt _ _ _ _ _ _ = _
                            rw [← A.out, pdq_right h12 hl0 HP2.out H87.out (by rw [hx]; exact ⟨r1, r2⟩) (by rw [hx]; exact h4), hx]
                    · have h87' := h87
                      simp only [Bool.and_eq_true, decide_eq_true_eq, Bool.not_eq_true'] at h87'
                      obtain ⟨mid, d4, hx⟩ : ∃ mid d4, partitionEqual lt (rd lt dk a' b' lim wb wp).pi.1 a' b' (rd lt dk a' b' lim wb wp).pivot = (mid, d4) := ⟨(partitionEqual lt (rd lt dk a' b' lim wb wp).pi.1 a' b' (rd lt dk a' b' lim wb wp).pivot).1, (partitionEqual lt (rd lt dk a' b' lim wb wp).pi.1 a' b' (rd lt dk a' b' lim wb wp).pivot).2, rfl⟩
                      obtain ⟨r1, r2, r3, r4, _⟩ := round_eq hO (partitionEqual_holds lt) h87'.1 hpv.1 hpv.2 (show b' ≤ (rd lt dk a' b' lim wb wp).pi.1.size by rw [h3s.out]; exact hb') hB3.out h87'.2 hx
                      have hc21 := partitionEqual_any S a' b' (rd lt dk a' b' lim wb wp).pivot (rd lt dk a' b' lim wb wp).pi.1 wc h3s hAt6 hpv.1 hpv.2 hb'
                      rw [hx] at hc21
                      have X : Hid (partitionEqual lt (rd lt dk a' b' lim wb wp).pi.1 a' b' (rd lt dk a' b' lim wb wp).pivot = (mid, d4)) := hx
                      have hs4 : Hid (d4.size = N) := r3.trans h3s.out
                      have R4 := Lib.hid r4
                      have H87 := Lib.hid h87
                      clear hx r3 r4 h87'
                      go_wp2_with (go_at_call 44; refine hc21.mono ?_; rintro e w7 ⟨rfl, hAt7⟩)
                      go_roundg (b' - mid)
                      case measure => omega
                      case rel =>
                        have hx := X.out
                        exact ⟨mid, b', (rd lt dk a' b' lim wb wp).lim, wb, wp, d4, rfl, rfl, rfl, rfl, rfl, r2, hb', Nat.le_refl _, by omega, Nat.le_trans rd_lim_le hlim, hs4, R4.out, hAt7, (by show pdq lt _ _ _ _ _ _ = _; rw [← A.out, pdq_eq h12 hl0 HP2.out H87.out (by rw [hx]; exact ⟨r1, r2⟩), hx])⟩

set_option maxHeartbeats 1000000 in
set_option maxRecDepth 100000 in
/-- sort.Sort of at least two: the row holds a permutation of what it held, sorted. -/
theorem sort_any (S : Srt enc lt W0 blk N rv sv) (hO : SWO lt) (d : Array α) (w : World) (hd : Hid (d.size = N)) (hS : St enc W0 blk d w) (h2 : 2 ≤ N) (hlen : ∀ w, Calls Try.prog 68 #[sv] w fun e w' => e = .returned (.int .i64 N) ∧ w = w') :
    Calls Try.prog 30 #[.iface 58 rv] w fun e w' => e = .returned (.tuple #[]) ∧ ∃ d' : Array α, PermIn 0 N d d' ∧ SortedIn lt 0 N d' ∧ St enc W0 blk d' w' := by
  have hN := S.small
  have mN := S.finds.1
  have eN := enters68
  have hlim : Lib.bitLen N < 4611686018427387904 := Nat.lt_of_le_of_lt (Lib.bitLen_le N 62 (by omega) (by omega)) (by omega)
  have hb := fun w => Try.bits_Len (N : Int) w (by omega) (by omega)
  rw [show ((N : Int).toNat) = N from by omega] at hb
  have wr : IntKind.u64.wrap (N : Int) = N := by simp [IntKind.wrap, IntKind.bits, IntKind.signed]; omega
  have hp := pdq_sorts lt hO d 0 N (Lib.bitLen N) true true (Nat.zero_le _) (by rw [hd.out]; exact Nat.le_refl _) (Or.inl rfl)
  have HP := Lib.hid hp
  clear hp
  go_enter Try.func30, Try.ntmps30
  go_wp2_with (first
    | (go_at_call 68; refine (hlen _).mono ?_; rintro e w' ⟨rfl, rfl⟩)
    | (go_at_call 34; refine (hb _).mono ?_; rintro e w' ⟨rfl, rfl⟩)
    | (go_at_call 35; refine (pdqsort_any S hO (N + 1) 0 N (Lib.bitLen N) d _ (by omega) hd hS (Nat.zero_le _) (Nat.le_refl _) hlim (Or.inl rfl)).mono ?_; rintro e w1 ⟨rfl, hS1⟩))
  go_end0
  exact ⟨rfl, _, HP.out.1, HP.out.2, hS1⟩
end Go.Proofs.Ytbmgjbpcijbocaa
