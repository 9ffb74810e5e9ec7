/- Natural numbers of big: norm, set · The walks of addVW and subVW. -/
import Derived.Test.YtllapbkoildfiaaGreatFmtM07
import Derived.StillTailTactics
import Derived.Test.YtllapbkoildfiaaGreatFmtM06
set_option linter.all false
namespace Go.Proofs.YtllapbkoildfiaaGreatFmt
section
open Go.RowKit
theorem beq0_true {a : Nat} (h : a = 0) : ((a : Int) == 0) = true := by subst h; rfl
theorem beq0_false {a : Nat} (h : a ≠ 0) : ((a : Int) == 0) = false := by
  cases g : ((a : Int) == 0) with
  | false => rfl
  | true => exact absurd (by simpa using g) h
theorem nl_succ_zero {f : Nat → Nat} {k : Nat} (h : f k = 0) : nl f (k + 1) = nl f k := by rw [nl, if_pos h]
theorem nl_succ_pos {f : Nat → Nat} {k : Nat} (h : f k ≠ 0) : nl f (k + 1) = k + 1 := by rw [nl, if_neg h]
set_option maxHeartbeats 1000000 in
theorem norm_some (b c n : Nat) (f : Nat → Nat) (w : World) (hn : n ≤ c) (hc : c ≤ 100000000) (h : Wd w b 0 n f) :
    Calls Tryz.prog 182 #[.slice (some ⟨b, 0, none⟩) n c] w fun e w' => e = .returned (.slice (some ⟨b, 0, none⟩) (nl f n) c) ∧ w = w' := by
  go_enter Tryz.func182, Tryz.ntmps182
  go_wp2
  go_loop [3] (fun vi => ∃ k : Nat, k ≤ n ∧ vi = .int .i64 k ∧ Hid (nl f k = nl f n)) (fun vi => (intOf vi).toNat)
  case atStart => exact ⟨n, Nat.le_refl _, rfl, (show Hid _ from rfl)⟩
  case round =>
    obtain ⟨k, hk, rfl, he⟩ := hrel
    rcases k with _ | k
    · go_wp2
      go_ret
      rw [← he.out]
      exact ⟨rfl, rfl⟩
    · have hl := (h k (by omega)).1
      rw [Nat.zero_add] at hl
      by_cases h0 : f k = 0
      · have hz := beq0_true h0
        have h0 := Lib.hid h0
        go_wp2
        all_goals go_round
        case rel => exact ⟨k, by omega, rfl, (show Hid (nl f k = nl f n) from (nl_succ_zero h0.out).symm.trans he.out)⟩
        case measure => simp [intOf]
      · have hz := beq0_false h0
        have h0 := Lib.hid h0
        go_wp2
        go_ret
        rw [← he.out, nl_succ_pos h0.out]
        exact ⟨rfl, rfl⟩
theorem norm_nil (w : World) : Calls Tryz.prog 182 #[.slice none 0 0] w fun e w' => e = .returned (.slice none 0 0) ∧ w = w' := by
  go_enter Tryz.func182, Tryz.ntmps182
  go_wp2
  go_loop [3] (fun vi => vi = .int .i64 0) (fun vi => (intOf vi).toNat)
  case atStart => exact rfl
  case round =>
    subst hrel
    go_wp2
    go_ret
    exact ⟨rfl, rfl⟩
theorem Turn.ofRw {b lo hi : Nat} {w w' : World} (h : Rw b lo hi w w') (c : Nat) : Turn (InB (some (b, c))) w w' := h.turn.mono fun k _ e => ⟨c, by rw [e]⟩
theorem Own.self (w : World) (zo : Option (Nat × Nat)) : Own w zo zo := fun _ c h => .inl ⟨c, h⟩
theorem Own.new {w : World} {zo : Option (Nat × Nat)} {b c : Nat} (h : w.heap.size ≤ b) : Own w zo (some (b, c)) := fun b' c' e => by
  injection e with e; injection e with e1 e2; subst e1; exact .inr h
theorem Nt.alloc {w : World} {o : Option (Nat × Nat)} {n : Nat} {f : Nat → Nat} (h : Nt w o n f) (x : Obj) : Nt (w.alloc x) o n f :=
  h.turn (S := fun _ => False) ((Turn.refl _ _).alloc x) fun _ _ => id
theorem Wd.ext {w : World} {b c n : Nat} {f g : Nat → Nat} {w' : World} (h : Wd w b 0 c f) (hr : Rw b 0 n w w') (hg : Wd w' b 0 n g) (_hn : n ≤ c) : Wd w' b 0 c (fun i => if i < n then g i else f i) := fun i hi => by
  by_cases e : i < n
  · simp only [if_pos e]; exact hg i e
  · simp only [if_neg e]
    exact h.rw hr hi (fun _ => by omega)
theorem vl_ext {g f : Nat → Nat} {n : Nat} : vl (fun i => if i < n then g i else f i) n = vl g n := vl_congr fun i hi => by simp only [if_pos hi]
theorem nrm_ext {g f : Nat → Nat} {n : Nat} (h : Nrm g n) : Nrm (fun i => if i < n then g i else f i) n := by
  rcases h with h | h
  · exact .inl h
  · rcases Nat.eq_zero_or_pos n with g0 | g0
    · exact .inl g0
    · right; simp only [if_pos (show n - 1 < n by omega)]; exact h
theorem NRes.old {w w2 : World} {b c m n : Nat} {fz x : Nat → Nat} (hz : Nt w (some (b, c)) m fz) (hn : n ≤ c) (hr : Rw b 0 n w w2) (hg : Wd w2 b 0 n x) (hx : Nrm x n) {v : Nat} (hv : vl x n = v) :
    NRes w (some (b, c)) v (.returned (.slice (some ⟨b, 0, none⟩) n c)) w2 :=
  ⟨some (b, c), n, _, rfl, ⟨hn, hz.2.1, hz.2.2.1, hz.2.2.2.1.ext hr hg hn, hr.plain hz.2.2.2.2⟩, vl_ext.trans hv, nrm_ext hx, Own.self _ _, Turn.ofRw hr c⟩
theorem NRes.new {w w2 : World} {zo : Option (Nat × Nat)} {c n : Nat} {x : Nat → Nat} (hn : n ≤ c) (hc : c ≤ 100000000) (hc1 : 1 ≤ c) (hr : Rw w.heap.size 0 n (w.alloc (zeros c)) w2) (hg : Wd w2 w.heap.size 0 n x) (hx : Nrm x n) {v : Nat} (hv : vl x n = v) :
    NRes w zo v (.returned (.slice (some ⟨w.heap.size, 0, none⟩) n c)) w2 :=
  ⟨some (w.heap.size, c), n, _, rfl, ⟨hn, hc, hc1, (wd_made w c).ext hr hg hn, hr.plain (Plain.made _ _)⟩, vl_ext.trans hv, nrm_ext hx, Own.new (Nat.le_refl _),
    ((Turn.refl _ w).alloc (zeros c)).trans hr.turn fun k hk e => by omega⟩
theorem copy_none (w : World) (ty : TypeId) (d a : Option Addr) (dLen dCap sLen sCap : Nat) (hn : Nat.min sLen dLen = 0) :
    (Builtin.copy_ #[126, 126] ty #[.slice d dLen dCap, .slice a sLen sCap]).run Tryz.prog w = .ok (.int .i64 0) w :=
  run_copy_none w 126 126 ty 195 d a dLen dCap sLen sCap Tryz.underlying126 (by kernel_rfl) hn
theorem set_empty (zo : Option (Nat × Nat)) (m : Nat) (a : Option Addr) (c : Nat) (fz : Nat → Nat) (w : World) (hz : Nt w zo m fz) :
    Calls Tryz.prog 142 #[nv zo m, .slice a 0 c] w (NRes w zo 0) := by
  rcases zo with _ | ⟨b, zc⟩
  · have hcp := fun w ty => copy_none w ty none a 0 0 0 c rfl
    have hres : NRes w none 0 (.returned (.slice none 0 0)) w := ⟨none, 0, fz, rfl, rfl, rfl, .inl rfl, Own.self _ _, Turn.refl _ _⟩
    have hres := Lib.hid hres
    have hm := Lib.hid hz
    clear hz
    show Calls Tryz.prog 142 #[.slice none 0 0, .slice a 0 c] w (NRes w none 0)
    go_enter Tryz.func142, Tryz.ntmps142
    go_wp2_with (go_at_call 171; refine (make_nil _).mono ?_; rintro e w' ⟨rfl, rfl⟩)
    go_ret
    exact hres.out
  · have hcp := fun w ty => copy_none w ty (some ⟨b, 0, none⟩) a 0 zc 0 c rfl
    have hres : NRes w (some (b, zc)) 0 (.returned (.slice (some ⟨b, 0, none⟩) 0 zc)) w := ⟨some (b, zc), 0, fz, rfl, ⟨Nat.zero_le _, hz.2⟩, rfl, .inl rfl, Own.self _ _, Turn.refl _ _⟩
    have hres := Lib.hid hres
    have h1 := hz.1
    have h2 := hz.2.1
    clear hz
    show Calls Tryz.prog 142 #[.slice (some ⟨b, 0, none⟩) m zc, .slice a 0 c] w (NRes w (some (b, zc)) 0)
    go_enter Tryz.func142, Tryz.ntmps142
    go_wp2_with (go_at_call 171; refine (make_old b zc m 0 (Nat.zero_le _) h1 h2 _).mono ?_; rintro e w' ⟨rfl, rfl⟩)
    go_ret
    exact hres.out
set_option maxHeartbeats 1000000 in
theorem set_some (zo : Option (Nat × Nat)) (m n xb xc : Nat) (fz x : Nat → Nat) (w : World) (hz : Nt w zo m fz) (hx : Wd w xb 0 n x) (hn : n ≤ 1000000) (hn1 : 1 ≤ n) (hx0 : Nrm x n) :
    Calls Tryz.prog 142 #[nv zo m, .slice (some ⟨xb, 0, none⟩) n xc] w (NRes w zo (vl x n)) := by
  have hmin : n = Nat.min n n := (Nat.min_self n).symm
  by_cases hroom : ∃ b c, zo = some (b, c) ∧ n ≤ c
  · obtain ⟨b, c, rfl, hnc⟩ := hroom
    obtain ⟨w2, hcp, hr, hg⟩ := run_copy_wd w 3 126 Tryz.underlying126 (zl := n) (zc := c) (xl := n) (xc := xc) (hz.2.2.2.1.mono hnc) hx hmin
    rw [Nat.zero_add] at hr
    have hres := Lib.hid (NRes.old hz hnc hr hg hx0 rfl)
    have h1 := hz.1
    have h2 := hz.2.1
    clear hz hx hr hg hx0 hmin
    show Calls Tryz.prog 142 #[.slice (some ⟨b, 0, none⟩) m c, .slice (some ⟨xb, 0, none⟩) n xc] w (NRes w (some (b, c)) (vl x n))
    go_enter Tryz.func142, Tryz.ntmps142
    go_wp2_with (go_at_call 171; refine (make_old b c m n hnc h1 h2 _).mono ?_; rintro e w' ⟨rfl, rfl⟩)
    go_ret
    exact hres.out
  · have hz' : ∀ b c, zo = some (b, c) → m ≤ c ∧ c < n := fun b c e => by
      subst e
      exact ⟨hz.1, Nat.lt_of_not_le fun g => hroom ⟨b, c, rfl, g⟩⟩
    have hm := Lib.hid hmin
    clear hmin
    have hl : ∃ a l k, nv zo m = .slice a l k := by rcases zo with _ | ⟨b, c⟩ <;> exact ⟨_, _, _, rfl⟩
    have hmk := make_new zo m n hn1 hn hz' w
    obtain ⟨a, l, k, e⟩ := hl
    rw [e] at hmk ⊢
    clear e hz' hz hroom
    go_enter Tryz.func142, Tryz.ntmps142
    go_wp2_with (go_at_call 171; refine hmk.mono ?_; rintro e w' ⟨c, rfl, hc1, hc2, rfl⟩; obtain ⟨w2, hcp, hr, hg⟩ := run_copy_wd (w.alloc (zeros c)) 3 126 Tryz.underlying126 (zl := n) (zc := c) (xl := n) (xc := xc) ((wd_made w c).mono hc1) (hx.turn (S := fun _ => False) ((Turn.refl _ _).alloc _) id) hm.out; clear hx)
    go_ret
    rw [Nat.zero_add] at hr
    exact NRes.new hc1 (by omega) (by omega) hr hg hx0 rfl
theorem set_any (zo xo : Option (Nat × Nat)) (m n : Nat) (fz x : Nat → Nat) (w : World) (hz : Nt w zo m fz) (hx : Nt w xo n x) (hn : n ≤ 1000000) (hx0 : Nrm x n) :
    Calls Tryz.prog 142 #[nv zo m, nv xo n] w (NRes w zo (vl x n)) := by
  rcases Nat.eq_zero_or_pos n with rfl | hn1
  · rcases xo with _ | ⟨b, c⟩
    · exact set_empty zo m none 0 fz w hz
    · exact set_empty zo m _ c fz w hz
  · rcases xo with _ | ⟨b, c⟩
    · have : n = 0 := hx; omega
    · exact set_some zo m n b c fz x w hz (hx.2.2.2.1.mono hx.1) hn hn1 hx0
end
section
open Go.RowKit
def acr (x : Nat → Nat) (y : Nat) : Nat → Nat
  | 0 => y
  | k + 1 => (x k + acr x y k) / 18446744073709551616
def aw (x : Nat → Nat) (y k : Nat) : Nat := (x k + acr x y k) % 18446744073709551616
theorem vl_aw (x : Nat → Nat) (y n : Nat) : vl (aw x y) n + acr x y n * 18446744073709551616 ^ n = vl x n + y := by
  induction n with
  | zero => simp [vl, acr]
  | succ n ih =>
    rw [vl_succ, vl_succ, acr, Nat.pow_succ, Nat.mul_comm (18446744073709551616 ^ n) 18446744073709551616]
    have ea : aw x y n = (x n + acr x y n) % 18446744073709551616 := rfl
    rw [ea]
    generalize acr x y n = c at *
    generalize x n = a at *
    generalize vl (aw x y) n = u at *
    have e : (a + c) % 18446744073709551616 * 18446744073709551616 ^ n + (a + c) / 18446744073709551616 * (18446744073709551616 * 18446744073709551616 ^ n) = (a + c) * 18446744073709551616 ^ n := by
      rw [← Nat.mul_assoc, ← Nat.add_mul]
      congr 1
      omega
    rw [Nat.add_assoc, e, Nat.add_mul]
    omega
theorem aw_lt (x : Nat → Nat) (y k : Nat) : aw x y k < 18446744073709551616 := Nat.mod_lt _ (show 0 < 18446744073709551616 by omega)
theorem acr_le {x : Nat → Nat} {y k : Nat} (hx : x k < 18446744073709551616) (hy : acr x y k < 18446744073709551616) : acr x y (k + 1) ≤ 1 := by
  rw [acr]; omega
theorem acr_zero {x : Nat → Nat} {y k m : Nat} (h : acr x y k = 0) (hx : ∀ i, i < m → x i < 18446744073709551616) (hk : k ≤ m) : ∀ j, k ≤ j → j ≤ m → acr x y j = 0 := by
  intro j
  induction j with
  | zero => intro h1 _; obtain rfl : k = 0 := by omega
            exact h
  | succ j ih =>
    intro h1 h2
    rcases Nat.lt_or_ge j k with g | g
    · obtain rfl : k = j + 1 := by omega
      exact h
    · rw [acr, ih g (by omega), Nat.add_zero]
      exact Nat.div_eq_of_lt (hx j (by omega))
theorem aw_zero {x : Nat → Nat} {y k m : Nat} (h : acr x y k = 0) (hx : ∀ i, i < m → x i < 18446744073709551616) (hk : k ≤ m) : ∀ j, k ≤ j → j < m → aw x y j = x j := fun j h1 h2 => by
  unfold aw
  rw [acr_zero h hx hk j h1 (by omega), Nat.add_zero]
  exact Nat.mod_eq_of_lt (hx j h2)
def AwPost (zb zo n y : Nat) (x : Nat → Nat) (w : World) (e : Ending) (w' : World) : Prop :=
  e = .returned (.int .u64 ((acr x y n : Nat) : Int)) ∧ Rw zb zo (zo + n) w w' ∧ Wd w' zb zo n (aw x y)
structure ARel (zb zo : Nat) (x : Nat → Nat) (y : Nat) (w : World) (k : Nat) (wr : World) : Prop where
  rw : Rw zb zo (zo + k) w wr
  done : Wd wr zb zo k (aw x y)
  one : acr x y k = 1
theorem aw_put {zb zo k : Nat} {x : Nat → Nat} {y : Nat} {w wr : World} (hr : Rw zb zo (zo + k) w wr) (hd : Wd wr zb zo k (aw x y)) {u : Value} (hc : wr.cell? ⟨zb, zo + k, none⟩ = some u) (hf : wr.frozen? ⟨zb, zo + k, none⟩ = false)
    {v : Int} (hv : v = ((aw x y k : Nat) : Int)) : Rw zb zo (zo + (k + 1)) w (wr.setCell ⟨zb, zo + k, none⟩ (.int .u64 v)) ∧ Wd (wr.setCell ⟨zb, zo + k, none⟩ (.int .u64 v)) zb zo (k + 1) (aw x y) := by
  subst hv
  refine ⟨(hr.mono (Nat.le_refl _) (by omega)).set (by omega) (by omega) _, (hd.snoc hc hf (aw_lt _ _ _)).congr fun i hi => ?_⟩
  split
  · next e => subst e; rfl
  · rfl
set_option maxHeartbeats 1000000 in
theorem addVW_same (zb zo zc xc n y : Nat) (x : Nat → Nat) (w : World) (hn : n + 1 ≤ 1000000000) (hx : Wd w zb zo (n + 1) x) (hy : y < 18446744073709551616) :
    Calls Tryz.prog 187 #[.slice (some ⟨zb, zo, none⟩) (n + 1) zc, .slice (some ⟨zb, zo, none⟩) (n + 1) xc, .int .u64 (y : Int)] w (AwPost zb zo (n + 1) y x w) := by
  have h0 := hx 0 (by omega)
  rw [Nat.add_zero] at h0
  have c0 := h0.1
  have f0 := h0.2.1
  have ca := add_any (x 0) y 0 (by omega)
  have hs : aw x y 0 = (x 0 + y + 0) % 18446744073709551616 := rfl
  have hcr : acr x y 1 = (x 0 + y + 0) / 18446744073709551616 := rfl
  have hle : acr x y 1 ≤ 1 := acr_le h0.2.2 hy
  rw [← hs, ← hcr] at ca
  have hput := aw_put (x := x) (y := y) (w := w) (wr := w) (k := 0) (u := .int .u64 (x 0 : Nat)) (Rw.refl zb zo _ w) (fun _ h => absurd h (Nat.not_lt_zero _)) c0 f0 rfl
  clear h0 hs hcr
  have hbd : ∀ i, i < n + 1 → x i < 18446744073709551616 := fun i hi => (hx i hi).2.2
  have hput := Lib.hid hput
  have hbd := Lib.hid hbd
  have go_on : ∀ k w' w2, w2 = w' → Rw zb zo (zo + k) w w' → Wd w' zb zo k (aw x y) → acr x y k = 0 → k ≤ n + 1 → AwPost zb zo (n + 1) y x w (.returned (.int .u64 0)) w2 := fun k w' w2 e hr hd h0 hk => by
    subst e
    refine ⟨by rw [acr_zero h0 hbd.out hk (n + 1) hk (Nat.le_refl _)]; rfl, hr.mono (Nat.le_refl _) (by omega), fun i hi => ?_⟩
    rcases Nat.lt_or_ge i k with g | g
    · exact hd i g
    · rw [aw_zero h0 hbd.out hk i g hi]
      exact hx.rw hr hi (fun _ => by omega)
  have go_on := Lib.hid go_on
  by_cases h1 : acr x y 1 = 0
  · rw [h1] at ca
    have h1 := Lib.hid h1
    clear hle hx
    generalize aw x y 0 = v0 at ca hput
    have ca : ∀ w, Calls Tryz.prog 188 #[.int .u64 (x 0 : Nat), .int .u64 y, .int .u64 0] w fun e w' => e = .returned (.tuple #[.int .u64 (v0 : Nat), .int .u64 0]) ∧ w = w' := ca
    have hp := ptr_neq_same 221 195 Tryz.underlying221 (by kernel_rfl) ⟨zb, zo, none⟩
    go_enter Tryz.func187, Tryz.ntmps187
    go_wp2_with (go_at_call 188; refine (ca _).mono ?_; rintro e w' ⟨rfl, rfl⟩)
    go_region
    all_goals go_wp2
    all_goals go_ret
    exact go_on.out 1 _ _ rfl hput.out.1.drew hput.out.2.drew h1.out (by omega)
  · have h1 : acr x y 1 = 1 := by omega
    rw [h1] at ca
    have h1 := Lib.hid h1
    clear hle
    generalize aw x y 0 = v0 at ca hput
    have ca : ∀ w, Calls Tryz.prog 188 #[.int .u64 (x 0 : Nat), .int .u64 y, .int .u64 0] w fun e w' => e = .returned (.tuple #[.int .u64 (v0 : Nat), .int .u64 1]) ∧ w = w' := ca
    have hp := ptr_neq_same 221 195 Tryz.underlying221 (by kernel_rfl) ⟨zb, zo, none⟩
    go_enter Tryz.func187, Tryz.ntmps187
    go_wp2_with (go_at_call 188; refine (ca _).mono ?_; rintro e w' ⟨rfl, rfl⟩)
    go_loopw [9] (fun vi wr => ∃ k : Nat, k ≤ n ∧ vi = .int .i64 ((k : Int) + 1) ∧ ARel zb zo x y w (k + 1) wr) (fun vi _ => n + 1 - (intOf vi).toNat)
    case atStart => exact ⟨0, Nat.zero_le _, rfl, hput.out.1, hput.out.2, h1.out⟩
    case round =>
      obtain ⟨k, hk, rfl, hrel⟩ := hrel
      by_cases hlt : k < n
      · have ck := hx.rw hrel.rw (i := k + 1) (by omega) (fun _ => by omega)
        have c1 := ck.1
        have c2 := ck.2.1
        have c3 := ck.2.2
        clear ck
        by_cases hm : x (k + 1) = 18446744073709551615
        · have hput := aw_put hrel.rw hrel.done c1 c2 (v := 0) (by
            show _ = (((x (k + 1) + acr x y (k + 1)) % 18446744073709551616 : Nat) : Int)
            rw [hrel.one, hm]; rfl)
          have hone : acr x y (k + 1 + 1) = 1 := by rw [acr, hrel.one, hm]
          have hb : ((x (k + 1) : Int) == 18446744073709551615) = true := by rw [hm]; rfl
          have hput := Lib.hid hput
          have hone := Lib.hid hone
          have hm := Lib.hid hm
          clear hrel
          go_wp2
          all_goals go_roundw
          case rel => exact ⟨k + 1, by omega, by go_num, hput.out.1, hput.out.2, hone.out⟩
          case measure => simp [intOf]; omega
        · have hput := aw_put hrel.rw hrel.done c1 c2 (v := (x (k + 1) : Int) + 1) (by
            show _ = (((x (k + 1) + acr x y (k + 1)) % 18446744073709551616 : Nat) : Int)
            rw [hrel.one]; omega)
          have hzero : acr x y (k + 1 + 1) = 0 := by rw [acr, hrel.one]; omega
          have hput := Lib.hid hput
          have hzero := Lib.hid hzero
          have hb : ((x (k + 1) : Int) == 18446744073709551615) = false := by
            cases g : ((x (k + 1) : Int) == 18446744073709551615) with
            | false => rfl
            | true => exact absurd (by have : (x (k + 1) : Int) = 18446744073709551615 := by simpa using g
                                       omega) hm
          have hm' : x (k + 1) < 18446744073709551615 := by omega
          clear hrel hm
          go_wp2
          go_region
          all_goals go_wp2
          all_goals go_ret
          exact go_on.out (k + 1 + 1) _ _ rfl hput.out.1.drew hput.out.2.drew hzero.out (by omega)
      · obtain rfl : k = n := by omega
        have hrel := Lib.hid hrel
        go_wp2
        go_ret
        exact ⟨by rw [hrel.out.one]; rfl, hrel.out.rw, hrel.out.done⟩
theorem aw_copy {zb zo xb xo n k y : Nat} {x f : Nat → Nat} {w wr : World} (hk : k ≤ n) (hr : Rw zb zo (zo + k) w wr) (hd : Wd wr zb zo k (aw x y)) (h0 : acr x y k = 0) (hx : Wd w xb xo n x) (hz : Wd w zb zo n f) (hne : xb ≠ zb) (ty : TypeId) {zo' zc xo' xc : Nat} (hxo : xo' = xo + k ∨ n - k = 0) (hzo : zo' = zo + k ∨ n - k = 0) :
    (Builtin.copy_ #[125, 125] ty #[.slice (some ⟨zb, zo', none⟩) (n - k) zc, .slice (some ⟨xb, xo', none⟩) (n - k) xc]).run Tryz.prog wr = .ok (.int .i64 ((n - k : Nat) : Int)) (copied wr zb zo' (n - k) (fun i => x (k + i))) ∧
    Rw zb zo (zo + n) w (copied wr zb zo' (n - k) (fun i => x (k + i))) ∧ Wd (copied wr zb zo' (n - k) (fun i => x (k + i))) zb zo n (aw x y) := by
  by_cases e0 : n - k = 0
  · obtain rfl : k = n := by omega
    have ec : copied wr zb zo' (k - k) (fun i => x (k + i)) = wr := by rw [e0]; rfl
    rw [ec, e0]
    exact ⟨run_copy_none wr 125 125 ty 195 _ _ 0 zc 0 xc Tryz.underlying125 (by kernel_rfl) rfl, hr, hd⟩
  · have hxo : xo' = xo + k := hxo.resolve_right e0
    have hzo : zo' = zo + k := hzo.resolve_right e0
    subst hxo hzo
    have hx' : Wd wr xb (xo + k) (n - k) (fun i => x (k + i)) := (hx.turn hr.turn hne).sub (by omega)
    have hz' : Wd wr zb (zo + k) (n - k) (fun i => f (k + i)) := fun i hi => by
      have := hz.rw hr (i := k + i) (by omega) (fun _ => by omega)
      rw [← Nat.add_assoc] at this; exact this
    obtain ⟨hc, h1, h2⟩ := run_copy_wdc wr ty 125 Tryz.underlying125 (zl := n - k) (zc := zc) (xl := n - k) (xc := xc) hz' hx' (Nat.min_self _).symm
    refine ⟨hc, (hr.mono (Nat.le_refl _) (by omega)).trans (h1.mono (by omega) (by omega)), fun i hi => ?_⟩
    rcases Nat.lt_or_ge i k with g | g
    · exact hd.rw h1 g (fun _ => by omega)
    · have := h2 (i - k) (by omega)
      rw [aw_zero h0 (fun j hj => (hx j hj).2.2) hk i g hi]
      simp only [show zo + k + (i - k) = zo + i by omega, show k + (i - k) = i by omega] at this
      exact this
theorem copied_drew (w : World) (zb zo n : Nat) (x : Nat → Nat) : copied w.drew zb zo n x = (copied w zb zo n x).drew := by
  unfold copied
  generalize ((List.range n).map fun i => Value.int .u64 ((x i : Nat) : Int)) = vs
  induction vs generalizing w zo with
  | nil => rfl
  | cons v vs ih => exact ih (w.setCell ⟨zb, zo, none⟩ v) (zo + 1)
set_option maxRecDepth 100000 in
set_option maxHeartbeats 1000000 in
theorem addVW_diff (zb zo zc xb xo xc n y : Nat) (f x : Nat → Nat) (w : World) (hn : n + 1 ≤ 1000000000) (hx : Wd w xb xo (n + 1) x) (hz : Wd w zb zo (n + 1) f) (hne : xb ≠ zb) (hzc : n + 1 ≤ zc) (hxc : n + 1 ≤ xc) (hpz : Plain w zb) (hpx : Plain w xb) (hy : y < 18446744073709551616) :
    Calls Tryz.prog 187 #[.slice (some ⟨zb, zo, none⟩) (n + 1) zc, .slice (some ⟨xb, xo, none⟩) (n + 1) xc, .int .u64 (y : Int)] w (AwPost zb zo (n + 1) y x w) := by
  have h0 := hx 0 (by omega)
  have z0 := hz 0 (by omega)
  rw [Nat.add_zero] at h0 z0
  have c0 := h0.1
  have f0 := z0.2.1
  have cz0 := z0.1
  have ca := add_any (x 0) y 0 (by omega)
  have hs : aw x y 0 = (x 0 + y + 0) % 18446744073709551616 := rfl
  have hcr : acr x y 1 = (x 0 + y + 0) / 18446744073709551616 := rfl
  have hle : acr x y 1 ≤ 1 := acr_le h0.2.2 hy
  rw [← hs, ← hcr] at ca
  have hput := aw_put (x := x) (y := y) (w := w) (wr := w) (k := 0) (u := .int .u64 (f 0 : Nat)) (Rw.refl zb zo _ w) (fun _ h => absurd h (Nat.not_lt_zero _)) cz0 f0 rfl
  clear h0 z0 hs hcr
  have hput := Lib.hid hput
  have hne' := Lib.hid hne
  have hxc2 : xc = 1 ∨ 1 < xc := by omega
  have hbd : ∀ i, i < n + 1 → x i < 18446744073709551616 := fun i hi => (hx i hi).2.2
  have hbd := Lib.hid hbd
  by_cases h1 : acr x y 1 = 0
  · rw [h1] at ca
    have hcp := fun (xo' zo' xc' : Nat) (h : xo' = xo + 1 ∨ n + 1 - 1 = 0) (h' : zo' = zo + 1 ∨ n + 1 - 1 = 0) => aw_copy (k := 1) (zc := zc - 1) (xc := xc') (by omega) hput.out.1.drew.drew hput.out.2.drew.drew h1 hx hz hne 3 h h'
    have hp := fun (m : Nat) => ptr_neq_other 221 195 Tryz.underlying221 (by kernel_rfl) (a := ⟨zb, zo, none⟩) (b := ⟨xb, xo, none⟩) (((w.setCell ⟨zb, zo, none⟩ (.int .u64 ((aw x y 0 : Nat) : Int))).drew)) (fun e => hne e.symm) (hput.out.1.drew.plain hpz) (hput.out.1.drew.plain hpx)
    have hp := hp 0
    have h1 := Lib.hid h1
    clear hle hx hz hpz hpx
    generalize hv0 : aw x y 0 = v0 at ca hcp hp
    have hv0 := Lib.hid hv0
    have ca : ∀ w, Calls Tryz.prog 188 #[.int .u64 (x 0 : Nat), .int .u64 y, .int .u64 0] w fun e w' => e = .returned (.tuple #[.int .u64 (v0 : Nat), .int .u64 0]) ∧ w = w' := ca
    have key : ∀ xo' zo' w2, (Builtin.copy_ #[125, 125] 3 #[.slice (some ⟨zb, zo', none⟩) n (zc - 1), .slice (some ⟨xb, xo', none⟩) n (xc - 1)]).run Tryz.prog ((w.setCell ⟨zb, zo, none⟩ (.int .u64 (v0 : Int))).drew.drew) = .ok (.int .i64 (n : Int)) w2 →
        Hid (Rw zb zo (zo + (n + 1)) w w2 ∧ Wd w2 zb zo (n + 1) (aw x y)) → (xc = 1 ∧ n = 0 ∧ xo' = xo ∨ 1 < xc ∧ xo' = xo + 1) → (zc = 1 ∧ n = 0 ∧ zo' = zo ∨ 1 < zc ∧ zo' = zo + 1) →
        Calls Tryz.prog 187 #[.slice (some ⟨zb, zo, none⟩) (n + 1) zc, .slice (some ⟨xb, xo, none⟩) (n + 1) xc, .int .u64 (y : Int)] w (AwPost zb zo (n + 1) y x w) := by
      intro xo' zo' w2 hc hres hcase hcase'
      have fin : Hid (AwPost zb zo (n + 1) y x w (.returned (.int .u64 0)) w2) := Lib.hid ⟨by rw [acr_zero h1.out hbd.out (by omega) (n + 1) (by omega) (Nat.le_refl _)]; rfl, hres.out.1, hres.out.2⟩
      clear hcp hxc2 hput hne' hres hbd
      rcases hcase with ⟨rfl, rfl, rfl⟩ | ⟨e1, rfl⟩
      all_goals
        first
        | (rcases hcase' with ⟨rfl, rfl, rfl⟩ | ⟨e2, rfl⟩)
        | (rcases hcase' with ⟨rfl, _, rfl⟩ | ⟨e2, rfl⟩)
      all_goals try simp only [Nat.sub_self, Int.natCast_zero] at hc
      all_goals
        go_enter Tryz.func187, Tryz.ntmps187
        go_wp2_with (go_at_call 188; refine (ca _).mono ?_; rintro e w' ⟨rfl, rfl⟩)
        go_region
        all_goals go_wp2
        go_region
        all_goals go_wp2
        all_goals go_ret
        all_goals exact fin.out
    have hzc2 : zc = 1 ∨ 1 < zc := by omega
    rcases hxc2 with e | e <;> rcases hzc2 with e' | e'
    · exact key xo zo _ (hcp xo zo _ (.inr (by omega)) (.inr (by omega))).1 (Lib.hid ⟨(hcp xo zo (xc - 1) (.inr (by omega)) (.inr (by omega))).2.1, (hcp xo zo (xc - 1) (.inr (by omega)) (.inr (by omega))).2.2⟩) (.inl ⟨e, by omega, rfl⟩) (.inl ⟨e', by omega, rfl⟩)
    · exact key xo (zo + 1) _ (hcp xo (zo + 1) _ (.inr (by omega)) (.inl rfl)).1 (Lib.hid ⟨(hcp xo (zo + 1) (xc - 1) (.inr (by omega)) (.inl rfl)).2.1, (hcp xo (zo + 1) (xc - 1) (.inr (by omega)) (.inl rfl)).2.2⟩) (.inl ⟨e, by omega, rfl⟩) (.inr ⟨e', rfl⟩)
    · exact key (xo + 1) zo _ (hcp (xo + 1) zo _ (.inl rfl) (.inr (by omega))).1 (Lib.hid ⟨(hcp (xo + 1) zo (xc - 1) (.inl rfl) (.inr (by omega))).2.1, (hcp (xo + 1) zo (xc - 1) (.inl rfl) (.inr (by omega))).2.2⟩) (.inr ⟨e, rfl⟩) (.inl ⟨e', by omega, rfl⟩)
    · exact key (xo + 1) (zo + 1) _ (hcp (xo + 1) (zo + 1) _ (.inl rfl) (.inl rfl)).1 (Lib.hid ⟨(hcp (xo + 1) (zo + 1) (xc - 1) (.inl rfl) (.inl rfl)).2.1, (hcp (xo + 1) (zo + 1) (xc - 1) (.inl rfl) (.inl rfl)).2.2⟩) (.inr ⟨e, rfl⟩) (.inr ⟨e', rfl⟩)
  · have h1 : acr x y 1 = 1 := by omega
    rw [h1] at ca
    have h1 := Lib.hid h1
    clear hle
    generalize hv0 : aw x y 0 = v0 at ca hput
    have ca : ∀ w, Calls Tryz.prog 188 #[.int .u64 (x 0 : Nat), .int .u64 y, .int .u64 0] w fun e w' => e = .returned (.tuple #[.int .u64 (v0 : Nat), .int .u64 1]) ∧ w = w' := ca
    go_enter Tryz.func187, Tryz.ntmps187
    go_wp2_with (go_at_call 188; refine (ca _).mono ?_; rintro e w' ⟨rfl, rfl⟩)
    go_loopw [9] (fun vi wr => ∃ k : Nat, k ≤ n ∧ vi = .int .i64 ((k : Int) + 1) ∧ ARel zb zo x y w (k + 1) wr) (fun vi _ => n + 1 - (intOf vi).toNat)
    case atStart => exact ⟨0, Nat.zero_le _, rfl, hput.out.1, hput.out.2, h1.out⟩
    case round =>
      clear ca c0 f0 cz0 hput hv0
      obtain ⟨k, hk, rfl, hrel⟩ := hrel
      by_cases hlt : k < n
      · have c1 := (hx.rw hrel.rw (i := k + 1) (by omega) (fun e => absurd e hne)).1
        have c3 := hbd.out (k + 1) (by omega)
        have cz := hz.rw hrel.rw (i := k + 1) (by omega) (fun _ => by omega)
        have cz1 := cz.1
        have cz2 := cz.2.1
        clear cz
        by_cases hm : x (k + 1) = 18446744073709551615
        · have hput := aw_put hrel.rw hrel.done cz1 cz2 (v := 0) (by
            show _ = (((x (k + 1) + acr x y (k + 1)) % 18446744073709551616 : Nat) : Int)
            rw [hrel.one, hm]; rfl)
          have hone : acr x y (k + 1 + 1) = 1 := by rw [acr, hrel.one, hm]
          have hb : ((x (k + 1) : Int) == 18446744073709551615) = true := by rw [hm]; rfl
          have hput := Lib.hid hput
          have hone := Lib.hid hone
          have hm := Lib.hid hm
          clear hrel
          go_wp2
          all_goals go_roundw
          case rel => exact ⟨k + 1, by omega, by go_num, hput.out.1, hput.out.2, hone.out⟩
          case measure => simp [intOf]; omega
        · have hput := aw_put hrel.rw hrel.done cz1 cz2 (v := (x (k + 1) : Int) + 1) (by
            show _ = (((x (k + 1) + acr x y (k + 1)) % 18446744073709551616 : Nat) : Int)
            rw [hrel.one]; omega)
          have hzero : acr x y (k + 1 + 1) = 0 := by rw [acr, hrel.one]; omega
          have hb : ((x (k + 1) : Int) == 18446744073709551615) = false := by
            cases g : ((x (k + 1) : Int) == 18446744073709551615) with
            | false => rfl
            | true => exact absurd (by have : (x (k + 1) : Int) = 18446744073709551615 := by simpa using g
                                       omega) hm
          have hcp := fun (xo' zo' : Nat) (h : xo' = xo + (k + 1 + 1) ∨ n + 1 - (k + 1 + 1) = 0) (h' : zo' = zo + (k + 1 + 1) ∨ n + 1 - (k + 1 + 1) = 0) => aw_copy (k := k + 1 + 1) (zc := zc - (k + 1 + 1)) (xc := xc - (k + 1 + 1)) (by omega) hput.1.drew.drew hput.2.drew.drew hzero hx hz hne 3 h h'
          have hp := ptr_neq_other 221 195 Tryz.underlying221 (by kernel_rfl) (a := ⟨zb, zo, none⟩) (b := ⟨xb, xo, none⟩) (((wr.setCell ⟨zb, zo + (k + 1), none⟩ (.int .u64 ((x (k + 1) : Int) + 1))).drew)) (fun e => hne e.symm) (hput.1.drew.plain hpz) (hput.1.drew.plain hpx)
          have hput := Lib.hid hput
          have hzero := Lib.hid hzero
          have hm' : x (k + 1) < 18446744073709551615 := by omega
          clear hrel hm
          have fin : ∀ w2, Hid (Rw zb zo (zo + (n + 1)) w w2 ∧ Wd w2 zb zo (n + 1) (aw x y)) → AwPost zb zo (n + 1) y x w (.returned (.int .u64 0)) w2 := fun w2 h => ⟨by rw [acr_zero hzero.out hbd.out (by omega) (n + 1) (by omega) (Nat.le_refl _)]; rfl, h.out.1, h.out.2⟩
          have fin := Lib.hid fin
          have hcp := Lib.hid hcp
          have hxc3 : ∃ xo', (xo' = xo + (k + 1 + 1) ∨ n + 1 - (k + 1 + 1) = 0) ∧ (xc = k + 1 + 1 ∧ n = k + 1 ∧ xo' = xo ∨ k + 1 + 1 < xc ∧ xo' = xo + (k + 1 + 1)) := by
            by_cases e : xc = k + 1 + 1
            · exact ⟨xo, .inr (by omega), .inl ⟨e, by omega, rfl⟩⟩
            · exact ⟨_, .inl rfl, .inr ⟨by omega, rfl⟩⟩
          have hzc3 : ∃ zo', (zo' = zo + (k + 1 + 1) ∨ n + 1 - (k + 1 + 1) = 0) ∧ (zc = k + 1 + 1 ∧ n = k + 1 ∧ zo' = zo ∨ k + 1 + 1 < zc ∧ zo' = zo + (k + 1 + 1)) := by
            by_cases e : zc = k + 1 + 1
            · exact ⟨zo, .inr (by omega), .inl ⟨e, by omega, rfl⟩⟩
            · exact ⟨_, .inl rfl, .inr ⟨by omega, rfl⟩⟩
          obtain ⟨xo', hxo', hcx⟩ := hxc3
          obtain ⟨zo', hzo', hcz⟩ := hzc3
          have hcq := (hcp.out xo' zo' hxo' hzo').1
          have hres := Lib.hid (fin.out _ (Lib.hid ⟨(hcp.out xo' zo' hxo' hzo').2.1, (hcp.out xo' zo' hxo' hzo').2.2⟩))
          generalize copied (((wr.setCell ⟨zb, zo + (k + 1), none⟩ (.int .u64 ((x (k + 1) : Int) + 1))).drew).drew) zb zo' (n + 1 - (k + 1 + 1)) (fun i => x (k + 1 + 1 + i)) = w9 at hcq hres
          rw [show n + 1 - (k + 1 + 1) = n - (k + 1) by omega] at hcq
          clear hxo' hzo' hcp fin
          rcases hcx with ⟨rfl, rfl, rfl⟩ | ⟨e1, rfl⟩
          all_goals
            first
            | (rcases hcz with ⟨rfl, rfl, rfl⟩ | ⟨e2, rfl⟩)
            | (rcases hcz with ⟨rfl, _, rfl⟩ | ⟨e2, rfl⟩)
          all_goals try simp only [Nat.sub_self, Int.natCast_zero] at hcq
          all_goals
            go_wp2
            go_region
            all_goals go_wp2
            go_region
            all_goals go_wp2
            all_goals go_ret
            all_goals exact hres.out
      · obtain rfl : k = n := by omega
        have hrel := Lib.hid hrel
        go_wp2
        go_ret
        exact ⟨by rw [hrel.out.one]; rfl, hrel.out.rw, hrel.out.done⟩
end
end Go.Proofs.YtllapbkoildfiaaGreatFmt
