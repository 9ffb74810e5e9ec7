/- The walks of sort.Sort's family: breakPatterns. -/
import Derived.Test.YtbmgjbpcijbocaaSrtE
import Derived.Sort.Walk7
import Derived.Sort.LotD5
import Derived.Laws.Bits64b
namespace Go.Proofs.Ytbmgjbpcijbocaa
open Go.RowKit Go.Sort Go.Lib
variable {α : Type} [Inhabited α] {enc : α → Value} {lt : α → α → Bool} {W0 : World} {blk N : Nat} {rv sv : Value}

/-- The generator, in a block of its own. -/
def Rnd (rb x : Nat) (W : World) : Prop := W.cell? ⟨rb, 0, none⟩ = some (.int .u64 x) ∧ W.frozen? ⟨rb, 0, none⟩ = false

theorem Rnd.grown {rb x : Nat} {W w' : World} (h : Rnd rb x W) (hg : W.grownBy w' (some blk)) (hne : rb ≠ blk) : Rnd rb x w' := by
  have hl := World.block_lt_of_cell? W _ h.1
  have hb := hg.block rb hl (by intro e; exact hne (Option.some.inj e))
  exact ⟨(World.cell?_of_block (a := ⟨rb, 0, none⟩) hb).trans h.1, (World.frozen?_of_block (a := ⟨rb, 0, none⟩) hb).trans h.2⟩

theorem next_any {d : Array α} {W : World} (hS : St enc W0 blk d W) (rb x : Nat) (hx : x < 18446744073709551616) (hR : Rnd rb x W) (hrb : W0.heap.size ≤ rb) :
    Calls Try.prog 48 #[.pointer (some ⟨rb, 0, none⟩)] W fun e w' => e = .returned (.int .u64 (xorNextN x : Nat)) ∧ St enc W0 blk d w' ∧ Rnd rb (xorNextN x) w' := by
  refine (Try.xorshift_Next rb 0 x hx W hR.1 hR.2).mono fun e w' ⟨he, hw⟩ => ⟨he, ?_, ?_⟩
  · rw [hw]; exact (hS.setNew hrb _).below (below_drewN (RowKit.Below.refl _ _) _)
  · rw [hw]
    exact ⟨World.cell?_setCell_same _ _ _ hR.1, by show (W.setCell _ _).frozen? _ = false; rw [World.frozen?_setCell]; exact hR.2⟩

set_option maxHeartbeats 4000000 in
set_option maxRecDepth 1000000 in
theorem breakPatterns_go (S : Srt enc lt W0 blk N rv sv) (a L : Nat) (d : Array α) (w : World) (hs : Hid (d.size = N)) (hS : St enc W0 blk d w) (hb : a + L ≤ N) (h8 : 8 ≤ L) :
    Calls Try.prog 40 #[.iface 58 rv, .int .i64 a, .int .i64 ((a + L : Nat) : Int)] w fun e w' => e = .returned (.tuple #[]) ∧ St enc W0 blk (breakPatterns d a (a + L)) w' := by
  have hN := S.small
  have mS := S.finds.2.2
  have eS := enters71
  rw [breakPatterns_eq d a L h8]
  obtain ⟨M, hM⟩ : ∃ M : Nat, M = 1 <<< bitsLen L := ⟨_, rfl⟩
  have hM1 : 1 ≤ M := by rw [hM, Nat.one_shiftLeft]; exact Nat.two_pow_pos _
  have hM2 : M ≤ 2 * L := by rw [hM, Nat.one_shiftLeft]; exact two_pow_bitsLen_le (by omega)
  have hNP : ∀ w, Calls Try.prog 47 #[.int .i64 (L : Int)] w fun e w' => e = .returned (.int .u64 (M : Int)) ∧ w' = w := by rw [hM]; exact fun w => Try.nextPowerOfTwo L (by omega) w
  rw [← hM]
  clear hM
  have hLz : ((a : Int) + (L : Int) - (a : Int)) = (L : Int) := by omega
  have h8z : (8 : Int) ≤ (L : Int) := by omega
  have hne : w.heap.size ≠ blk := by have := hS.lt; omega
  have hrb : W0.heap.size ≤ w.heap.size := hS.1.size
  have hS0 : St enc W0 blk d (w.alloc (.cells #[.int .u64 L] 82)) := hS.below ((RowKit.Below.refl _ _).alloc (Nat.le_refl _) _)
  have hR0 : Rnd w.heap.size (UInt64.ofNat L).toNat (w.alloc (.cells #[.int .u64 L] 82)) := by
    rw [show (UInt64.ofNat L).toNat = L from by simp; omega]
    exact ⟨by go_simp, by go_simp⟩
  go_enter Try.func40, Try.ntmps40
  go_wp2_with (first | (go_at_call 47; refine (hNP _).mono ?_; rintro e w' ⟨rfl, rfl⟩))
  go_loopg [9] 3 (fun g1 vi wr => ∃ (t : Nat) (r : UInt64) (dk : Array α), vi = .int .i64 ((a : Int) + (L : Int) / 4 * 2 - 1 + (t : Int)) ∧ t ≤ 3 ∧ 3 - t ≤ g1 ∧ Hid (dk.size = N) ∧ St enc W0 blk dk wr ∧ Rnd w.heap.size r.toNat wr ∧
      Hid (bpRest a L M (a + L / 4 * 2 - 1) (3 - t) t (r, dk) = bpRest a L M (a + L / 4 * 2 - 1) 3 0 (UInt64.ofNat L, d)))
  case atStart => exact ⟨0, UInt64.ofNat L, d, by simp, by omega, by omega, hs, hS0, hR0, rfl⟩
  case round =>
    clear hS hs hS0 hR0
    obtain ⟨t, r, dk, rfl, ht, hg1, hds, hSk, hRk, HR⟩ := hrel
    by_cases ht3 : t < 3
    · have hle : (a : Int) + (L : Int) / 4 * 2 - 1 + (t : Int) ≤ (a : Int) + (L : Int) / 4 * 2 + 1 := by omega
      obtain ⟨R, hRr⟩ : ∃ R : Nat, R = r.toNat := ⟨_, rfl⟩
      have lR : R < 18446744073709551616 := by rw [hRr]; exact r.toNat_lt
      obtain ⟨R', hR'⟩ : ∃ R' : Nat, R' = xorNextN R := ⟨_, rfl⟩
      have lR' : R' < 18446744073709551616 := by rw [hR']; exact xorNextN_lt R lR
      obtain ⟨O, hO⟩ : ∃ O : Nat, O = R' &&& (M - 1) := ⟨_, rfl⟩
      have lO : O ≤ M - 1 := by rw [hO]; exact Nat.and_le_right
      have eAnd : bits .and .u64 (R' : Int) ((M : Int) - 1) = (O : Int) := by
        rw [show ((M : Int) - 1) = ((M - 1 : Nat) : Int) by omega, bits_and_u64_nat _ _ lR' (by omega), hO]
      have hNext : Calls Try.prog 48 #[.pointer (some ⟨w.heap.size, 0, none⟩)] wr fun e w' => e = .returned (.int .u64 (R' : Int)) ∧ St enc W0 blk dk w' ∧ Rnd w.heap.size R' w' := by
        rw [hR']; exact next_any hSk w.heap.size R lR (by rw [hRr]; exact hRk) hrb
      have HN : Hid (R' = (xorNext r).toNat ∧ O = (xorNext r).toNat &&& (M - 1)) := by
        have e : R' = (xorNext r).toNat := by rw [hR', hRr, xorNext_toNat]
        exact ⟨e, by rw [hO, e]⟩
      clear hRr hR' hO hRk hSk
      by_cases hLO : L ≤ O
      · have hLOz : (L : Int) ≤ (O : Int) := by omega
        go_wp2_with (first | (go_at_call 48; refine hNext.mono ?_; rintro e w1 ⟨rfl, hS2, hR2⟩) | (go_at_call 71; refine (S.swapAt hS2 hds (a + L / 4 * 2 - 1 + t) (a + (O - L)) (by omega) (by omega) (by omega) (by omega)).mono ?_; rintro e w2 ⟨rfl, hS3, hG3⟩))
        go_roundg (3 - (t + 1))
        case measure => omega
        case rel => exact ⟨t + 1, xorNext r, swp dk (a + L / 4 * 2 - 1 + t) (a + (O - L)), by congr 1; push_cast; omega, by omega, Nat.le_refl _, hsize hds _ _, hS3, (by rw [← HN.out.1]; exact hR2.grown hG3 hne),
          (show Hid _ from by rw [← HR.out, bp_step a L M _ t r dk (O - L) ht3 (by rw [← HN.out.2, if_pos (by omega)])]; exact rfl)⟩
      · have hLOz : ¬ (L : Int) ≤ (O : Int) := by omega
        go_wp2_with (first | (go_at_call 48; refine hNext.mono ?_; rintro e w1 ⟨rfl, hS2, hR2⟩) | (go_at_call 71; refine (S.swapAt hS2 hds (a + L / 4 * 2 - 1 + t) (a + O) (by omega) (by omega) (by omega) (by omega)).mono ?_; rintro e w2 ⟨rfl, hS3, hG3⟩))
        go_roundg (3 - (t + 1))
        case measure => omega
        case rel => exact ⟨t + 1, xorNext r, swp dk (a + L / 4 * 2 - 1 + t) (a + O), by congr 1; push_cast; omega, by omega, Nat.le_refl _, hsize hds _ _, hS3, (by rw [← HN.out.1]; exact hR2.grown hG3 hne),
          (show Hid _ from by rw [← HR.out, bp_step a L M _ t r dk O ht3 (by rw [← HN.out.2, if_neg (by omega)])]; exact rfl)⟩
    · obtain rfl : t = 3 := by omega
      have hle : ¬ ((a : Int) + (L : Int) / 4 * 2 - 1 + ((3 : Nat) : Int) ≤ (a : Int) + (L : Int) / 4 * 2 + 1) := by omega
      go_wp2
      go_end0
      refine ⟨rfl, ?_⟩
      rw [← HR.out]
      exact hSk

set_option maxRecDepth 1000000 in
theorem breakPatterns_any (S : Srt enc lt W0 blk N rv sv) (a b : Nat) (d : Array α) (w : World) (hs : Hid (d.size = N)) (hS : St enc W0 blk d w) (hab : a ≤ b) (hb : b ≤ N) :
    Calls Try.prog 40 #[.iface 58 rv, .int .i64 a, .int .i64 b] w fun e w' => e = .returned (.tuple #[]) ∧ St enc W0 blk (breakPatterns d a b) w' := by
  obtain ⟨L, rfl⟩ : ∃ L, b = a + L := ⟨b - a, by omega⟩
  by_cases h8 : 8 ≤ L
  · exact breakPatterns_go S a L d w hs hS hb h8
  · have hN := S.small
    have hv : breakPatterns d a (a + L) = d := by unfold breakPatterns; simp only [Nat.add_sub_cancel_left]; rw [if_neg h8]
    rw [hv]
    have hLz : ((a : Int) + (L : Int) - (a : Int)) = (L : Int) := by omega
    have h8z : ¬ (8 : Int) ≤ (L : Int) := by omega
    clear hv hs
    go_enter Try.func40, Try.ntmps40
    go_wp2
    go_end0
    exact ⟨rfl, hS⟩
end Go.Proofs.Ytbmgjbpcijbocaa
