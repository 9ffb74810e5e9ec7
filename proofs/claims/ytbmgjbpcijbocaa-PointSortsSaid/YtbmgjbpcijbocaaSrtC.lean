/- The walks of sort.Sort's family: partitionEqual, partition. -/
import Derived.Test.YtbmgjbpcijbocaaSrtA
import Derived.Sort.WalkC4
namespace Go.Proofs.Ytbmgjbpcijbocaa
open Go.RowKit Go.Sort Go.Lib
variable {α : Type} [Inhabited α] {enc : α → Value} {lt : α → α → Bool} {W0 : World} {blk N : Nat} {rv sv : Value}

set_option maxHeartbeats 12800000 in
set_option maxRecDepth 100000 in
theorem partitionEqual_any (S : Srt enc lt W0 blk N rv sv) (a b pivot : Nat) (d : Array α) (w : World) (hs : Hid (d.size = N)) (hS : St enc W0 blk d w) (hap : a ≤ pivot) (hpb : pivot < b) (hb : b ≤ N) :
    Calls Try.prog 44 #[.iface 58 rv, .int .i64 a, .int .i64 b, .int .i64 pivot] w fun e w' => e = .returned (.int .i64 (Sort.partitionEqual lt d a b pivot).1) ∧ St enc W0 blk (Sort.partitionEqual lt d a b pivot).2 w' := by
  have hN := S.small
  have mL := S.finds.2.1
  have mS := S.finds.2.2
  have eL := enters72
  have eS := enters71
  go_enter Try.func44, Try.ntmps44
  go_wp2_with (go_at_call 71; refine (S.swapAt hS hs a pivot rfl rfl (by omega) (by omega)).mono ?_; rintro e w0 ⟨rfl, hS0, _⟩)
  go_loopw [9, 10] (fun vi vj wr => ∃ (i j : Nat) (dk : Array α), vi = .int .i64 i ∧ vj = .int .i64 j ∧ a < i ∧ i ≤ j + 1 ∧ j < b ∧ Hid (dk.size = N) ∧ St enc W0 blk dk wr ∧
      Hid (Sort.partEqLoop lt a i j dk = Sort.partEqLoop lt a (a + 1) (b - 1) (Sort.swp d a pivot))) (fun vi vj _ => (intOf vj).toNat + 1 - (intOf vi).toNat)
  case atStart => exact ⟨a + 1, b - 1, Sort.swp d a pivot, by go_num, by go_num, by omega, by omega, by omega, hsize hs _ _, hS0, rfl⟩
  case round =>
    clear hS hs hS0
    obtain ⟨i, j, dk, rfl, rfl, hai, hij, hjb, hds, hSk, AE⟩ := hrel
    go_wp2
    go_loopw [9] (fun vi w1 => ∃ (i' : Nat), vi = .int .i64 i' ∧ i ≤ i' ∧ i' ≤ j + 1 ∧ St enc W0 blk dk w1 ∧ Hid (Sort.scanUp (fun x => !lt dk[a]! x) dk j i' = Sort.scanUp (fun x => !lt dk[a]! x) dk j i)) (fun vi _ => j + 1 - (intOf vi).toNat)
    case atStart => exact ⟨i, rfl, Nat.le_refl _, hij, hSk, rfl⟩
    case round =>
      clear hSk
      obtain ⟨i', rfl, hii, hij', hS1, hsc⟩ := hrel
      by_cases hle : i' ≤ j
      · cases hlv : lt dk[a]! dk[i']! with
        | false =>
          have HLV := Lib.hid hlv
          clear hlv
          go_wp2_with (go_at_call 72; refine (S.lessAt hS1 hds a i' rfl rfl (by omega) (by omega) HLV.out).mono ?_; rintro e w1 ⟨rfl, hS2, _⟩)
          go_roundw
          case rel => exact ⟨i' + 1, by go_num, by omega, by omega, hS2, (scanUp_go (fun x => !lt dk[a]! x) dk j i' hle (by simp [HLV.out])).symm.trans hsc.out⟩
          case measure => simp [intOf]; omega
        | true =>
          have HLV := Lib.hid hlv
          clear hlv
          have hi2 : Hid (i' = Sort.scanUp (fun x => !lt dk[a]! x) dk j i) := (scanUp_end (fun x => !lt dk[a]! x) dk j i' (Or.inr (by simp [HLV.out]))).symm.trans hsc.out
          go_wp2_with (go_at_call 72; refine (S.lessAt hS1 hds a i' rfl rfl (by omega) (by omega) HLV.out).mono ?_; rintro e w1 ⟨rfl, hS2, _⟩)
          clear hsc hS1 HLV
          go_loopw [10] (fun vj w2 => ∃ (j' : Nat), vj = .int .i64 j' ∧ j' ≤ j ∧ i' ≤ j' + 1 ∧ St enc W0 blk dk w2 ∧ Hid (Sort.scanDown (fun x => lt dk[a]! x) dk i' j' = Sort.scanDown (fun x => lt dk[a]! x) dk i' j)) (fun vj _ => (intOf vj).toNat)
          case atStart => exact ⟨j, rfl, Nat.le_refl _, hij', hS2, rfl⟩
          case round =>
            clear hS2
            obtain ⟨j', rfl, hjj, hij2, hS3, hsd⟩ := hrel
            by_cases hle2 : i' ≤ j'
            · cases hlv : lt dk[a]! dk[j']! with
              | true =>
                have HLV := Lib.hid hlv
                clear hlv
                go_wp2_with (go_at_call 72; refine (S.lessAt hS3 hds a j' rfl rfl (by omega) (by omega) HLV.out).mono ?_; rintro e w1 ⟨rfl, hS4, _⟩)
                go_roundw
                case rel => exact ⟨j' - 1, by go_num, by omega, by omega, hS4, (scanDown_go (fun x => lt dk[a]! x) dk i' j' hle2 (by omega) (HLV.out)).symm.trans hsd.out⟩
                case measure => simp [intOf]; omega
              | false =>
                have HLV := Lib.hid hlv
                clear hlv
                have hj2 : Hid (j' = Sort.scanDown (fun x => lt dk[a]! x) dk i' j) := (scanDown_end (fun x => lt dk[a]! x) dk i' j' (Or.inr (HLV.out))).symm.trans hsd.out
                have hlt3 := scans_lt lt a i j dk (by omega) hi2.out hj2.out hle2
                go_wp2_with (first
                  | (go_at_call 72; refine (S.lessAt hS3 hds a j' rfl rfl (by omega) (by omega) HLV.out).mono ?_; rintro e w1 ⟨rfl, hS4, _⟩)
                  | (go_at_call 71; refine (S.swapAt hS4 hds i' j' rfl rfl (by omega) (by omega)).mono ?_; rintro e w2 ⟨rfl, hS5, _⟩))
                go_roundw
                case rel => exact ⟨i' + 1, j' - 1, Sort.swp dk i' j', by go_num, by go_num, by omega, by omega, by omega, hsize hds _ _, hS5, (by show Sort.partEqLoop lt a (i' + 1) (j' - 1) (swp dk i' j') = _; rw [← AE.out]; exact (partEq_go lt a i j dk hi2.out hj2.out (by omega)).symm)⟩
                case measure => simp [intOf]; omega
            · have hj2 : Hid (j' = Sort.scanDown (fun x => lt dk[a]! x) dk i' j) := (scanDown_end (fun x => lt dk[a]! x) dk i' j' (Or.inl hle2)).symm.trans hsd.out
              go_wp2
              go_ret
              have e := partEq_break lt a i j dk hi2.out hj2.out (by omega)
              unfold Sort.partitionEqual
              rw [← AE.out, e]
              exact ⟨rfl, hS3⟩
      · have hi2 : Hid (i' = Sort.scanUp (fun x => !lt dk[a]! x) dk j i) := (scanUp_end (fun x => !lt dk[a]! x) dk j i' (Or.inl hle)).symm.trans hsc.out
        have hS2 := hS1
        clear hsc hS1
        go_wp2
        go_loopw [10] (fun vj w2 => ∃ (j' : Nat), vj = .int .i64 j' ∧ j' ≤ j ∧ i' ≤ j' + 1 ∧ St enc W0 blk dk w2 ∧ Hid (Sort.scanDown (fun x => lt dk[a]! x) dk i' j' = Sort.scanDown (fun x => lt dk[a]! x) dk i' j)) (fun vj _ => (intOf vj).toNat)
        case atStart => exact ⟨j, rfl, Nat.le_refl _, hij', hS2, rfl⟩
        case round =>
          clear hS2
          obtain ⟨j', rfl, hjj, hij2, hS3, hsd⟩ := hrel
          by_cases hle2 : i' ≤ j'
          · exfalso; omega
          · have hj2 : Hid (j' = Sort.scanDown (fun x => lt dk[a]! x) dk i' j) := (scanDown_end (fun x => lt dk[a]! x) dk i' j' (Or.inl hle2)).symm.trans hsd.out
            go_wp2
            go_ret
            have e := partEq_break lt a i j dk hi2.out hj2.out (by omega)
            unfold Sort.partitionEqual
            rw [← AE.out, e]
            exact ⟨rfl, hS3⟩

set_option maxHeartbeats 12800000 in
set_option maxRecDepth 100000 in
theorem partition_any (S : Srt enc lt W0 blk N rv sv) (a b pivot : Nat) (d : Array α) (w : World) (hs : Hid (d.size = N)) (hS : St enc W0 blk d w) (hap : a ≤ pivot) (hpb : pivot < b) (hb : b ≤ N) :
    Calls Try.prog 45 #[.iface 58 rv, .int .i64 a, .int .i64 b, .int .i64 pivot] w fun e w' => e = .returned (.tuple #[.int .i64 (Sort.partition lt d a b pivot).1, .bool (Sort.partition lt d a b pivot).2.1]) ∧ St enc W0 blk (Sort.partition lt d a b pivot).2.2 w' := by
  have hN := S.small
  have mL := S.finds.2.1
  have mS := S.finds.2.2
  have eL := enters72
  have eS := enters71
  obtain ⟨i, hi⟩ : ∃ i : Nat, i = a + 1 := ⟨_, rfl⟩
  obtain ⟨j, hj⟩ : ∃ j : Nat, j = b - 1 := ⟨_, rfl⟩
  obtain ⟨dk, hdk⟩ : ∃ dk : Array α, dk = Sort.swp d a pivot := ⟨_, rfl⟩
  have hds : Hid (dk.size = N) := by rw [hdk]; exact hsize hs _ _
  have hai : a < i := by omega
  have hij : i ≤ j + 1 := by omega
  have hjb : j < b := by omega
  have Hi : Hid (i = a + 1) := hi
  have Hj : Hid (j = b - 1) := hj
  have Hdk : Hid (dk = Sort.swp d a pivot) := hdk
  clear hi hj hdk
  go_enter Try.func45, Try.ntmps45
  go_wp2_with (go_at_call 71; refine (S.swapAt hS hs a pivot rfl rfl (by omega) (by omega)).mono ?_; rintro e w0 ⟨rfl, hS0, _⟩)
  rw [show ((a : Int) + 1) = (i : Int) by have := Hi.out; omega, show ((b : Int) - 1) = (j : Int) by have := Hj.out; omega]
  have hSk : St enc W0 blk dk w0 := by rw [Hdk.out]; exact hS0
  clear hS hS0
  go_loopw [10] (fun vi w1 => ∃ (i' : Nat), vi = .int .i64 i' ∧ i ≤ i' ∧ i' ≤ j + 1 ∧ St enc W0 blk dk w1 ∧ Hid (Sort.scanUp (fun x => lt x dk[a]!) dk j i' = Sort.scanUp (fun x => lt x dk[a]!) dk j i)) (fun vi _ => j + 1 - (intOf vi).toNat)
  case atStart => exact ⟨i, rfl, Nat.le_refl _, hij, hSk, rfl⟩
  case round =>
    clear hSk
    obtain ⟨i', rfl, hii, hij', hS1, hsc⟩ := hrel
    by_cases hle : i' ≤ j
    · cases hlv : lt dk[i']! dk[a]! with
      | true =>
        have HLV := Lib.hid hlv
        clear hlv
        go_wp2_with (go_at_call 72; refine (S.lessAt hS1 hds i' a rfl rfl (by omega) (by omega) HLV.out).mono ?_; rintro e w1 ⟨rfl, hS2, _⟩)
        go_roundw
        case rel => exact ⟨i' + 1, by go_num, by omega, by omega, hS2, (scanUp_go (fun x => lt x dk[a]!) dk j i' hle (HLV.out)).symm.trans hsc.out⟩
        case measure => simp [intOf]; omega
      | false =>
        have HLV := Lib.hid hlv
        clear hlv
        have hi2 : Hid (i' = Sort.scanUp (fun x => lt x dk[a]!) dk j i) := (scanUp_end (fun x => lt x dk[a]!) dk j i' (Or.inr (HLV.out))).symm.trans hsc.out
        go_wp2_with (go_at_call 72; refine (S.lessAt hS1 hds i' a rfl rfl (by omega) (by omega) HLV.out).mono ?_; rintro e w1 ⟨rfl, hS2, _⟩)
        clear hsc hS1 HLV
        go_loopw [11] (fun vj w2 => ∃ (j' : Nat), vj = .int .i64 j' ∧ j' ≤ j ∧ i' ≤ j' + 1 ∧ St enc W0 blk dk w2 ∧ Hid (Sort.scanDown (fun x => !lt x dk[a]!) dk i' j' = Sort.scanDown (fun x => !lt x dk[a]!) dk i' j)) (fun vj _ => (intOf vj).toNat)
        case atStart => exact ⟨j, rfl, Nat.le_refl _, hij', hS2, rfl⟩
        case round =>
          clear hS2
          obtain ⟨j', rfl, hjj, hij2, hS3, hsd⟩ := hrel
          by_cases hle2 : i' ≤ j'
          · cases hlv : lt dk[j']! dk[a]! with
            | false =>
              have HLV := Lib.hid hlv
              clear hlv
              go_wp2_with (go_at_call 72; refine (S.lessAt hS3 hds j' a rfl rfl (by omega) (by omega) HLV.out).mono ?_; rintro e w1 ⟨rfl, hS4, _⟩)
              go_roundw
              case rel => exact ⟨j' - 1, by go_num, by omega, by omega, hS4, (scanDown_go (fun x => !lt x dk[a]!) dk i' j' hle2 (by omega) (by simp [HLV.out])).symm.trans hsd.out⟩
              case measure => simp [intOf]; omega
            | true =>
              have HLV := Lib.hid hlv
              clear hlv
              have hj2 : Hid (j' = Sort.scanDown (fun x => !lt x dk[a]!) dk i' j) := (scanDown_end (fun x => !lt x dk[a]!) dk i' j' (Or.inr (by simp [HLV.out]))).symm.trans hsd.out
              have hlt3 := part_scans_lt lt a i j dk (by omega) hi2.out hj2.out hle2
              go_wp2_with (first
                | (go_at_call 72; refine (S.lessAt hS3 hds j' a rfl rfl (by omega) (by omega) HLV.out).mono ?_; rintro e w1 ⟨rfl, hS4, _⟩)
                | (go_at_call 71; refine (S.swapAt hS4 hds i' j' rfl rfl (by omega) (by omega)).mono ?_; rintro e w2 ⟨rfl, hS5, _⟩))
              have PF : Hid (Sort.partition lt d a b pivot = ((partLoop lt a (i' + 1) (j' - 1) (swp dk i' j')).1, false, swp (partLoop lt a (i' + 1) (j' - 1) (swp dk i' j')).2 (partLoop lt a (i' + 1) (j' - 1) (swp dk i' j')).1 a)) := part_first_go lt d a b pivot Hi.out Hj.out Hdk.out hi2.out hj2.out (by omega)
              go_loopw [10, 11] (fun vi vj wr => ∃ (i2 j2 : Nat) (d2 : Array α), vi = .int .i64 i2 ∧ vj = .int .i64 j2 ∧ a < i2 ∧ i2 ≤ j2 + 1 ∧ j2 < b ∧ Hid (d2.size = N) ∧ St enc W0 blk d2 wr ∧
                  Hid (Sort.partLoop lt a i2 j2 d2 = partLoop lt a (i' + 1) (j' - 1) (swp dk i' j'))) (fun vi vj _ => (intOf vj).toNat + 1 - (intOf vi).toNat)
              case atStart => exact ⟨i' + 1, j' - 1, swp dk i' j', by go_num, by go_num, by omega, by omega, by omega, hsize hds _ _, hS5, rfl⟩
              case round =>
                obtain ⟨ii, jj, D, hii0, hjj0⟩ : ∃ (ii jj : Nat) (D : Array α), ii = i' + 1 ∧ jj = j' - 1 := ⟨i' + 1, j' - 1, dk, rfl, rfl⟩
                clear hii0 hjj0 ii jj D
                rename_i wr0
                have HI1 : Hid (i' ≤ N ∧ j' ≤ N) := ⟨by omega, by omega⟩
                clear Hi Hj Hdk hi2 hj2 hsd hS3 hS4 hS5 hlt3 HLV hds hai hij hjb hii hij' hle hjj hij2 hle2
                obtain ⟨i2, j2, d2, rfl, rfl, hai, hij, hjb, hds, hSk, AE⟩ := hrel
                go_wp2
                go_loopw [10] (fun vi w1 => ∃ (i3 : Nat), vi = .int .i64 i3 ∧ i2 ≤ i3 ∧ i3 ≤ j2 + 1 ∧ St enc W0 blk d2 w1 ∧ Hid (Sort.scanUp (fun x => lt x d2[a]!) d2 j2 i3 = Sort.scanUp (fun x => lt x d2[a]!) d2 j2 i2)) (fun vi _ => j2 + 1 - (intOf vi).toNat)
                case atStart => exact ⟨i2, rfl, Nat.le_refl _, hij, hSk, rfl⟩
                case round =>
                  clear hSk
                  obtain ⟨i3, rfl, hii, hij', hS1, hsc⟩ := hrel
                  by_cases hle : i3 ≤ j2
                  · cases hlv : lt d2[i3]! d2[a]! with
                    | true =>
                      have HLV := Lib.hid hlv
                      clear hlv
                      go_wp2_with (go_at_call 72; refine (S.lessAt hS1 hds i3 a rfl rfl (by omega) (by omega) HLV.out).mono ?_; rintro e w1 ⟨rfl, hS2, _⟩)
                      go_roundw
                      case rel => exact ⟨i3 + 1, by go_num, by omega, by omega, hS2, (scanUp_go (fun x => lt x d2[a]!) d2 j2 i3 hle (HLV.out)).symm.trans hsc.out⟩
                      case measure => simp [intOf]; omega
                    | false =>
                      have HLV := Lib.hid hlv
                      clear hlv
                      have hi2 : Hid (i3 = Sort.scanUp (fun x => lt x d2[a]!) d2 j2 i2) := (scanUp_end (fun x => lt x d2[a]!) d2 j2 i3 (Or.inr (HLV.out))).symm.trans hsc.out
                      go_wp2_with (go_at_call 72; refine (S.lessAt hS1 hds i3 a rfl rfl (by omega) (by omega) HLV.out).mono ?_; rintro e w1 ⟨rfl, hS2, _⟩)
                      clear hsc hS1 HLV
                      go_loopw [11] (fun vj w2 => ∃ (j3 : Nat), vj = .int .i64 j3 ∧ j3 ≤ j2 ∧ i3 ≤ j3 + 1 ∧ St enc W0 blk d2 w2 ∧ Hid (Sort.scanDown (fun x => !lt x d2[a]!) d2 i3 j3 = Sort.scanDown (fun x => !lt x d2[a]!) d2 i3 j2)) (fun vj _ => (intOf vj).toNat)
                      case atStart => exact ⟨j2, rfl, Nat.le_refl _, hij', hS2, rfl⟩
                      case round =>
                        clear hS2
                        obtain ⟨j3, rfl, hjj, hij2, hS3, hsd⟩ := hrel
                        by_cases hle2 : i3 ≤ j3
                        · cases hlv : lt d2[j3]! d2[a]! with
                          | false =>
                            have HLV := Lib.hid hlv
                            clear hlv
                            go_wp2_with (go_at_call 72; refine (S.lessAt hS3 hds j3 a rfl rfl (by omega) (by omega) HLV.out).mono ?_; rintro e w1 ⟨rfl, hS4, _⟩)
                            go_roundw
                            case rel => exact ⟨j3 - 1, by go_num, by omega, by omega, hS4, (scanDown_go (fun x => !lt x d2[a]!) d2 i3 j3 hle2 (by omega) (by simp [HLV.out])).symm.trans hsd.out⟩
                            case measure => simp [intOf]; omega
                          | true =>
                            have HLV := Lib.hid hlv
                            clear hlv
                            have hj2 : Hid (j3 = Sort.scanDown (fun x => !lt x d2[a]!) d2 i3 j2) := (scanDown_end (fun x => !lt x d2[a]!) d2 i3 j3 (Or.inr (by simp [HLV.out]))).symm.trans hsd.out
                            have hlt3 := part_scans_lt lt a i2 j2 d2 (by omega) hi2.out hj2.out hle2
                            go_wp2_with (first
                              | (go_at_call 72; refine (S.lessAt hS3 hds j3 a rfl rfl (by omega) (by omega) HLV.out).mono ?_; rintro e w1 ⟨rfl, hS4, _⟩)
                              | (go_at_call 71; refine (S.swapAt hS4 hds i3 j3 rfl rfl (by omega) (by omega)).mono ?_; rintro e w2 ⟨rfl, hS5, _⟩))
                            go_roundw
                            case rel => exact ⟨i3 + 1, j3 - 1, Sort.swp d2 i3 j3, by go_num, by go_num, by omega, by omega, by omega, hsize hds _ _, hS5, (by show Sort.partLoop lt a (i3 + 1) (j3 - 1) (swp d2 i3 j3) = _; rw [← AE.out]; exact (part_go lt a i2 j2 d2 hi2.out hj2.out (by omega)).symm)⟩
                            case measure => simp [intOf]; omega
                        · have hj2 : Hid (j3 = Sort.scanDown (fun x => !lt x d2[a]!) d2 i3 j2) := (scanDown_end (fun x => !lt x d2[a]!) d2 i3 j3 (Or.inl hle2)).symm.trans hsd.out
                          go_wp2_with (go_at_call 71; refine (S.swapAt hS3 hds j3 a rfl rfl (by omega) (by omega)).mono ?_; rintro e w2 ⟨rfl, hS5, _⟩)
                          go_ret2
                          have e := part_break lt a i2 j2 d2 hi2.out hj2.out (by omega)
                          rw [PF.out, ← AE.out, e]
                          exact ⟨rfl, hS5⟩
                  · have hi2 : Hid (i3 = Sort.scanUp (fun x => lt x d2[a]!) d2 j2 i2) := (scanUp_end (fun x => lt x d2[a]!) d2 j2 i3 (Or.inl hle)).symm.trans hsc.out
                    have hS2 := hS1
                    clear hsc hS1
                    go_wp2
                    go_loopw [11] (fun vj w2 => ∃ (j3 : Nat), vj = .int .i64 j3 ∧ j3 ≤ j2 ∧ i3 ≤ j3 + 1 ∧ St enc W0 blk d2 w2 ∧ Hid (Sort.scanDown (fun x => !lt x d2[a]!) d2 i3 j3 = Sort.scanDown (fun x => !lt x d2[a]!) d2 i3 j2)) (fun vj _ => (intOf vj).toNat)
                    case atStart => exact ⟨j2, rfl, Nat.le_refl _, hij', hS2, rfl⟩
                    case round =>
                      clear hS2
                      obtain ⟨j3, rfl, hjj, hij2, hS3, hsd⟩ := hrel
                      by_cases hle2 : i3 ≤ j3
                      · exfalso; omega
                      · have hj2 : Hid (j3 = Sort.scanDown (fun x => !lt x d2[a]!) d2 i3 j2) := (scanDown_end (fun x => !lt x d2[a]!) d2 i3 j3 (Or.inl hle2)).symm.trans hsd.out
                        go_wp2_with (go_at_call 71; refine (S.swapAt hS3 hds j3 a rfl rfl (by omega) (by omega)).mono ?_; rintro e w2 ⟨rfl, hS5, _⟩)
                        go_ret2
                        have e := part_break lt a i2 j2 d2 hi2.out hj2.out (by omega)
                        rw [PF.out, ← AE.out, e]
                        exact ⟨rfl, hS5⟩
          · have hj2 : Hid (j' = Sort.scanDown (fun x => !lt x dk[a]!) dk i' j) := (scanDown_end (fun x => !lt x dk[a]!) dk i' j' (Or.inl hle2)).symm.trans hsd.out
            go_wp2_with (go_at_call 71; refine (S.swapAt hS3 hds j' a rfl rfl (by omega) (by omega)).mono ?_; rintro e w2 ⟨rfl, hS5, _⟩)
            go_ret2
            have e := part_first_break lt d a b pivot Hi.out Hj.out Hdk.out hi2.out hj2.out (by omega)
            rw [e]
            exact ⟨rfl, hS5⟩
    · have hi2 : Hid (i' = Sort.scanUp (fun x => lt x dk[a]!) dk j i) := (scanUp_end (fun x => lt x dk[a]!) dk j i' (Or.inl hle)).symm.trans hsc.out
      have hS2 := hS1
      clear hsc hS1
      go_wp2
      go_loopw [11] (fun vj w2 => ∃ (j' : Nat), vj = .int .i64 j' ∧ j' ≤ j ∧ i' ≤ j' + 1 ∧ St enc W0 blk dk w2 ∧ Hid (Sort.scanDown (fun x => !lt x dk[a]!) dk i' j' = Sort.scanDown (fun x => !lt x dk[a]!) dk i' j)) (fun vj _ => (intOf vj).toNat)
      case atStart => exact ⟨j, rfl, Nat.le_refl _, hij', hS2, rfl⟩
      case round =>
        clear hS2
        obtain ⟨j', rfl, hjj, hij2, hS3, hsd⟩ := hrel
        by_cases hle2 : i' ≤ j'
        · exfalso; omega
        · have hj2 : Hid (j' = Sort.scanDown (fun x => !lt x dk[a]!) dk i' j) := (scanDown_end (fun x => !lt x dk[a]!) dk i' j' (Or.inl hle2)).symm.trans hsd.out
          go_wp2_with (go_at_call 71; refine (S.swapAt hS3 hds j' a rfl rfl (by omega) (by omega)).mono ?_; rintro e w2 ⟨rfl, hS5, _⟩)
          go_ret2
          have e := part_first_break lt d a b pivot Hi.out Hj.out Hdk.out hi2.out hj2.out (by omega)
          rw [e]
          exact ⟨rfl, hS5⟩
end Go.Proofs.Ytbmgjbpcijbocaa
