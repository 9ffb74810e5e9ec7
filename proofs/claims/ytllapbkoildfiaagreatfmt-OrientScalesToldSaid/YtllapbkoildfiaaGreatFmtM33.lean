/- expansion.valid, Sign; caught where nothing was given up · expansion.scale · expansion.Product. -/
import Derived.Test.YtllapbkoildfiaaGreatFmtM32
set_option linter.all false
set_option exponentiation.threshold 100000
namespace Go.Proofs.YtllapbkoildfiaaGreatFmt
section
open Go.RowKit
def Vls (w : World) (b n : Nat) : Prop := ∀ j, j < n → ∃ a E c, w.cell? ⟨b, j, none⟩ = some (.slice a (List.length E) c) ∧ Ls w a E ∧ Vld E ∧ E.length ≤ 4096
theorem valid_all (b n c : Nat) (w : World) (hn : n ≤ 1000) (h : Vls w b n) :
    Calls Tryz.prog 69 #[.slice (some ⟨b, 0, none⟩) n c] w fun e w' => e = .returned (.int .i64 0) ∧ w = w' := by
  replace h := Lib.hid h
  go_enter Tryz.func69, Tryz.ntmps69
  go_wp2
  go_loop [7] (fun vi => ∃ k : Nat, k ≤ n ∧ vi = .int .i64 k) (fun vi => n - (intOf vi).toNat)
  case atStart => exact ⟨0, Nat.zero_le _, rfl⟩
  case round =>
    obtain ⟨k, hk, rfl⟩ := hrel
    by_cases hkn : k < n
    · obtain ⟨a, E, cc, c0, hL, hV, hlen⟩ := h.out k hkn
      have hA := Valid_any a cc E w hL hV hlen
      have hn1 : (0 : Int) ≤ (k : Int) := by omega
      have hn2 : (k : Int) < n := by omega
      clear hL hV hlen
      generalize E.length = m at *
      go_wp2_with (go_at_call 98; ((with_reducible refine hA.mono ?_)); rintro en wa ⟨rfl, rfl⟩)
      all_goals go_round
      case rel => exact ⟨k + 1, by omega, by go_num⟩
      case measure => simp [intOf]; omega
    · obtain rfl : k = n := by omega
      go_wp2
      go_ret
      exact ⟨rfl, rfl⟩
def esg (E : List Int) : Int := if E = [] then 0 else sgn (E.getD (E.length - 1) 0)
theorem iw_sign {x : Nat} {z : Int} (hx : FV x z) (hz : z ≠ 0) : (iw x < 0 ↔ z < 0) := by
  obtain ⟨hf, rfl⟩ := hx
  rw [iw_neg hf.1, fv_neg]
  exact ⟨fun h => ⟨h, hz⟩, fun h => h.1⟩
set_option maxRecDepth 100000 in
set_option maxHeartbeats 1000000 in
theorem eSign_any (a : Option Addr) (c : Nat) (E : List Int) (w : World) (hE : Ls w a E) (hV : Vld E) (hn : E.length ≤ 4096) :
    Calls Tryz.prog 51 #[.slice a E.length c] w (SRes w (esg E)) := by
  have t1 := (Turn.refl (fun _ => False) w).alloc (.cells #[.slice a E.length c] 51)
  have hA := valid_all w.heap.size 1 1 (w.alloc (.cells #[.slice a E.length c] 51)) (by omega) (fun j hj => by
    obtain rfl : j = 0 := by omega
    exact ⟨a, E, c, cell_made _ _ _ 0, hE.still t1, hV, hn⟩)
  by_cases h0 : E = []
  · subst h0
    have hA : Calls Tryz.prog 69 #[.slice (some ⟨w.heap.size, 0, none⟩) 1 1] (w.alloc (.cells #[.slice a 0 c] 51)) _ := hA
    have ht : Turn (fun _ => False) w (w.alloc (.cells #[.slice a 0 c] 51)) := t1
    replace ht := Lib.hid ht
    clear hE hV t1
    go_enter Tryz.func51, Tryz.ntmps51
    go_wp2_with (go_at_call 69; ((with_reducible refine hA.mono ?_)); rintro en wa ⟨rfl, rfl⟩)
    go_ret2
    exact ⟨rfl, ht.out⟩
  · rcases hE with h | ⟨b, o, rfl, hok⟩
    · exact absurd h h0
    have hpos : 0 < E.length := List.length_pos_iff.2 h0
    obtain ⟨x, cx, fx, hx0⟩ := hok (E.length - 1) (by omega)
    have hl := World.block_lt_of_cell? w _ cx
    have c1 := (t1.cell (p := ⟨b, o + (E.length - 1), none⟩) hl id).trans cx
    have hs := iw_sign fx hx0
    unfold esg
    rw [if_neg h0]
    generalize hz : E.getD (E.length - 1) 0 = z at *
    have b1 : ((E.length : Int) == 0) = false := beq0_false (by omega)
    have hi1 : (0 : Int) ≤ (E.length : Int) - 1 := by omega
    have hi2 : (E.length : Int) - 1 < E.length := by omega
    have hi3 : ((E.length : Int) - 1).toNat = E.length - 1 := by omega
    have hw1 : IntKind.i64.wrap ((E.length : Int) - 1) = (E.length : Int) - 1 := IntWalk.i64_in _ (by omega)
    generalize E.length = n at *
    replace t1 := Lib.hid t1
    clear hok cx hV hz hpos h0
    by_cases hneg : z < 0
    · have h1 : sgn z = -1 := by unfold sgn; rw [if_pos hneg]
      have h2 := decide_eq_true (hs.2 hneg)
      rw [h1]
      clear hs fx hneg hx0 h1
      go_enter Tryz.func51, Tryz.ntmps51
      go_wp2_with (go_at_call 69; ((with_reducible refine hA.mono ?_)); rintro en wa ⟨rfl, rfl⟩)
      go_ret2
      exact ⟨rfl, t1.out⟩
    · have h1 : sgn z = 1 := by unfold sgn; rw [if_neg hneg, if_neg hx0]
      have h2 := decide_eq_false (fun h => hneg (hs.1 h))
      have h3 : ¬ iw x < 0 := fun h => hneg (hs.1 h)
      have h3 := Int.not_lt.1 h3
      rw [h1]
      clear hs fx hneg hx0 h1
      go_enter Tryz.func51, Tryz.ntmps51
      go_wp2_with (go_at_call 69; ((with_reducible refine hA.mono ?_)); rintro en wa ⟨rfl, rfl⟩)
      go_ret2
      exact ⟨rfl, t1.out⟩
theorem ecaught_idle (p q : Addr) (w : World) :
    CallsD Tryz.prog 68 #[.pointer (some p), .pointer (some q)] .returning w fun e u' w' => e = .returned (.tuple #[]) ∧ u' = .returning ∧ w' = w := by
  refine callsD_of_wpS Tryz.func68 rfl fun c₀ cs hu => ?_
  apply wpS_seq
  apply wpS_region
  simp [wpOpsS, go_sem, recoverD, hu, Tryz.ntmps68, Exit.thenS]
  apply wpS_seq
  apply wpS_seq
  apply wpS_region
  simp [wpOpsS, go_sem, Exit.thenS]
  refine wpS_cond (t := true) (by simp [Act.eval]) ?_
  simp only [if_true]
  refine wpS_of_wp (wp_ret ?_)
  cases c₀
  simp_all [Exit.thenS, bodyPostS, results, Tryz.results68]
end
section
open Go.RowKit
structure Big (a : Int) : Prop where
  rep : Rep a
  dvd : (2 : Int) ^ 872 ∣ a
  lt : a.natAbs < 2 ^ 1400
def pz (a b : Int) : Int := a * b / 2 ^ 1074
theorem big_nm {a : Int} (h : Big a) : ∃ X i, Nm a X i ∧ 820 ≤ i ∧ i ≤ 1400 := by
  by_cases h0 : a = 0
  · subst h0; exact ⟨0, 820, ⟨by rw [Int.zero_mul], .inl rfl⟩, by omega, by omega⟩
  · have hbig : 2 ^ 872 ≤ a.natAbs := by
      have e : (2 : Int) ^ 872 = ((2 ^ 872 : Nat) : Int) := by rw [Int.natCast_pow]; rfl
      have := h.dvd
      rw [e] at this
      exact Nat.le_of_dvd (by omega) (Int.ofNat_dvd_left.1 this)
    obtain ⟨L, h1, h2⟩ := at_log2 (n := a.natAbs) (Nat.le_trans (by rw [show (4503599627370496 : Nat) = 2 ^ 52 by decide]; exact Nat.pow_le_pow_right (by omega) (by omega)) hbig)
    have hd := RepN.dvd h.rep h1
    obtain ⟨X, hX⟩ : (2 : Int) ^ L ∣ a := by
      have e : (2 : Int) ^ L = ((2 ^ L : Nat) : Int) := by rw [Int.natCast_pow]; rfl
      rw [e]; exact Int.ofNat_dvd_left.2 hd
    have hXa : a.natAbs = X.natAbs * 2 ^ L := by rw [hX, Int.natAbs_mul, Int.natAbs_pow, Nat.mul_comm]; rfl
    have p := Nat.two_pow_pos L
    rw [hXa] at h1 h2
    have x1 := Nat.le_of_mul_le_mul_right h1 p
    have x2 := Nat.lt_of_mul_lt_mul_right h2
    refine ⟨X, L, ⟨by rw [hX, Int.mul_comm], .inr (by omega)⟩, ?_, ?_⟩
    · rcases Nat.lt_or_ge L 820 with g | g
      · exfalso
        have h3 : X.natAbs * 2 ^ L < 2 ^ 53 * 2 ^ L := Nat.mul_lt_mul_of_pos_right (by rw [show (2 : Nat) ^ 53 = 9007199254740992 by decide]; exact x2) p
        rw [← Nat.pow_add, ← hXa] at h3
        have h4 : 2 ^ (53 + L) ≤ 2 ^ 872 := Nat.pow_le_pow_right (by omega) (by omega)
        omega
      · exact g
    · have h5 : 2 ^ L ≤ a.natAbs := by rw [hXa]; exact Nat.le_mul_of_pos_left _ (by omega)
      have h6 := Nat.lt_of_le_of_lt h5 h.lt
      have := (Nat.pow_lt_pow_iff_right (a := 2) (by omega)).1 h6
      omega
theorem TwoProd_z (x y : Nat) (a b : Int) (w : World) (hx : FV x a) (hy : FV y b) (ha : Big a) (hb : Big b) (hT : Tab w) (hK : Kar w) :
    Calls Tryz.prog 101 #[.int .i64 (iw x), .int .i64 (iw y)] w (Step w (rn (pz a b)) (pz a b - rn (pz a b))) := by
  obtain ⟨X, i, h1, i1, i2⟩ := big_nm ha
  obtain ⟨Y, j, h2, j1, j2⟩ := big_nm hb
  obtain ⟨n, hn⟩ : ∃ n, i + j = n + 1074 := ⟨i + j - 1074, by omega⟩
  have h := TwoProd_any x y a b X Y i j n w hx hy h1 h2 hn (by omega) (by omega) (by omega) hT hK
  have e : pz a b = X * Y * 2 ^ n := by
    unfold pz
    rw [h1.1, h2.1]
    have : X * 2 ^ i * (Y * 2 ^ j) = X * Y * 2 ^ n * 2 ^ 1074 := by
      rw [Int.mul_assoc (X * Y), ← Int.pow_add, ← hn, Int.pow_add]
      generalize (2 : Int) ^ i = u
      generalize (2 : Int) ^ j = v
      ac_rfl
    rw [this]
    exact Int.mul_ediv_cancel _ (Int.ne_of_gt (pow_pos2 1074))
  rw [e, rn_shift, ← Int.sub_mul]
  exact h
theorem pz_mul {a b : Int} (ha : Big a) (hb : Big b) : a * b = pz a b * 2 ^ 1074 := by
  unfold pz
  refine (Int.ediv_mul_cancel ?_).symm
  have h1 : (2 : Int) ^ (872 + 872) ∣ a * b := by rw [Int.pow_add]; exact Int.mul_dvd_mul ha.dvd hb.dvd
  exact Int.dvd_trans ⟨2 ^ (872 + 872 - 1074), by rw [← Int.pow_add]⟩ h1
def sc (E : List Int) (b : Int) : Nat → Int × List Int
  | 0 => (rn (pz (E.getD 0 0) b), nz (pz (E.getD 0 0) b - rn (pz (E.getD 0 0) b)))
  | k + 1 =>
    let q := (sc E b k).1
    let z := pz (E.getD (k + 1) 0) b
    let s := q + (z - rn z)
    let f := rn z + rn s
    (rn f, (sc E b k).2 ++ nz (s - rn s) ++ nz (f - rn f))
def scaleL (E : List Int) (b : Int) : List Int := (sc E b (E.length - 1)).2 ++ nz (sc E b (E.length - 1)).1
theorem sc_len (E : List Int) (b : Int) : ∀ k, (sc E b k).2.length ≤ 2 * k + 1
  | 0 => nz_len _
  | k + 1 => by
    have h := sc_len E b k
    have h1 := nz_len ((sc E b k).1 + (pz (E.getD (k + 1) 0) b - rn (pz (E.getD (k + 1) 0) b)) - rn ((sc E b k).1 + (pz (E.getD (k + 1) 0) b - rn (pz (E.getD (k + 1) 0) b))))
    have h2 := nz_len (rn (pz (E.getD (k + 1) 0) b) + rn ((sc E b k).1 + (pz (E.getD (k + 1) 0) b - rn (pz (E.getD (k + 1) 0) b))) - rn (rn (pz (E.getD (k + 1) 0) b) + rn ((sc E b k).1 + (pz (E.getD (k + 1) 0) b - rn (pz (E.getD (k + 1) 0) b)))))
    show ((sc E b k).2 ++ nz _ ++ nz _).length ≤ _
    rw [List.length_append, List.length_append]
    omega
structure SOk (E : List Int) (b : Int) : Prop where
  len : E.length ≤ 1000
  big : ∀ i, i < E.length → Big (E.getD i 0)
  mul : Big b
  q : ∀ k, k < E.length → (sc E b k).1.natAbs < 2 ^ 2080
  u : ∀ k, k < E.length → (pz (E.getD k 0) b).natAbs < 2 ^ 2070
  fast : ∀ k, k + 1 < E.length → (rn ((sc E b k).1 + (pz (E.getD (k + 1) 0) b - rn (pz (E.getD (k + 1) 0) b)))).natAbs ≤ (rn (pz (E.getD (k + 1) 0) b)).natAbs
structure ScRel (w w1 : World) (E : List Int) (b : Int) (k : Nat) (wr : World) (y : Nat) : Prop where
  out : Out wr w.heap.size (2 * E.length) (sc E b k).2
  q : FV y (sc E b k).1
  turn : Turn (fun k => k = w.heap.size) w1 wr
theorem tab_ne {S : Nat → Prop} {w w' : World} (h : Tab w) (t : Turn S w w') (hs : ¬ S 7) : Tab w' := fun k hk =>
  (t.cell (p := ⟨7, k, none⟩) (World.block_lt_of_cell? w _ (h k hk)) hs).trans (h k hk)
theorem low_bound {z : Int} (h : z.natAbs < 2 ^ 2070) : (rn z).natAbs < 2 ^ 2080 ∧ (z - rn z).natAbs < 2 ^ 2080 := by
  have := (rn_mid h (by omega)).2
  have e : (2 : Nat) ^ 2080 = 2 ^ 2070 * 1024 := by rw [show 2080 = 2070 + 10 by omega, Nat.pow_add]
  rw [e]
  generalize 2 ^ 2070 = W at *
  omega
set_option maxRecDepth 100000 in
set_option maxHeartbeats 4000000 in
theorem scale_any (a : Option Addr) (c x : Nat) (E : List Int) (b : Int) (w : World) (hE : Ls w a E) (hc : E.length ≤ c) (hx : FV x b) (hE0 : E ≠ []) (hb0 : b ≠ 0) (hS : SOk E b) (hT : Tab w) (hK : Kar w) :
    Calls Tryz.prog 71 #[.slice a E.length c, .int .i64 (iw x)] w (GRes w (scaleL E b)) := by
  have hlen := hS.len
  have hpos : 0 < E.length := List.length_pos_iff.2 hE0
  have hmk : ∀ w : World, (Instr.makeSlice 51 (.int .i64 0) (.int .i64 (2 * (E.length : Int)))).run Tryz.prog w = .ok (.slice (some ⟨w.heap.size, 0, none⟩) 0 (2 * E.length)) (w.alloc (zerosI (2 * E.length))) := fun w => by
    have := run_make_int (2 * E.length) (by omega) w
    rw [Int.natCast_mul] at this
    exact this
  have t0 := (Turn.refl (fun _ => False) w).alloc (zerosI (2 * E.length))
  have hO0 := Out.made w (2 * E.length)
  have hsz := size_alloc w (zerosI (2 * E.length))
  have hw1 : IntKind.i64.wrap (2 * (E.length : Int)) = 2 * (E.length : Int) := by rw [IntKind.wrap_i64]; omega
  have hC := Class_any x w hx.1.1
  have hc0 : (cls x == 0) = false := by
    rw [beq_eq_false_iff_ne]
    intro e
    exact hb0 (hx.2 ▸ (cls_zero hx.1).1 e)
  have b1 : ((E.length : Int) == 0) = false := beq0_false (by omega)
  rcases hE with h | ⟨bE, oE, rfl, hok⟩
  · exact absurd h hE0
  obtain ⟨x0, cx0, fx0, -⟩ := hok 0 hpos
  rw [Nat.add_zero] at cx0
  have hbl := World.block_lt_of_cell? w _ cx0
  have d0 := (t0.cell (p := ⟨bE, oE, none⟩) hbl id).trans cx0
  have hP0 := TwoProd_z x0 x _ _ _ fx0 hx (hS.big 0 hpos) hS.mul (hT.still t0) (hK.still t0)
  have hst := fun h l => step_any (iw h) (iw l)
  have hA0 := fun wa l (t : Turn (fun _ => False) (w.alloc (zerosI (2 * E.length))) wa) (fl : FV l (pz (E.getD 0 0) b - rn (pz (E.getD 0 0) b))) => (show Calls Tryz.prog 102 #[.slice (some ⟨w.heap.size, 0, none⟩) 0 (2 * E.length), .int .i64 (iw l)] wa (AddRes wa w.heap.size (2 * E.length) (sc E b 0).2) from eadd_any w.heap.size (2 * E.length) l [] _ wa (hO0.still t) fl (fun _ => by show 0 < _; omega) (by omega))
  have hrel0 := Lib.hid (fun wa wb h (t : Turn (fun _ => False) (w.alloc (zerosI (2 * E.length))) wa) (fh : FV h (rn (pz (E.getD 0 0) b))) (ho : Out wb w.heap.size (2 * E.length) (sc E b 0).2) (t2 : Turn (fun k => k = w.heap.size) wa wb) => (show ScRel w (w.alloc (zerosI (2 * E.length))) E b 0 wb h from ⟨ho, fh, (t.mono fun _ _ g => g.elim).trans' t2⟩))
  replace hA0 := Lib.hid hA0
  replace hst := Lib.hid hst
  replace hok := Lib.hid hok
  replace hS := Lib.hid hS
  replace t0 := Lib.hid t0
  replace hsz := Lib.hid hsz
  have hcc : (E.length : Int) ≤ (c : Int) := by omega
  have hp1 : (1 : Int) ≤ (E.length : Int) := by omega
  clear hO0 cx0 fx0
  generalize hnn : E.length = n at *
  generalize cls x = kx at *
  go_enter Tryz.func71, Tryz.ntmps71
  go_wp2_with (first
    | (go_at_call 60; ((with_reducible refine hC.mono ?_)); rintro en wa ⟨rfl, rfl⟩)
    | (go_at_call 101; ((with_reducible refine hP0.mono ?_)); rintro en wa ⟨h, l, rfl, fh, fl, t⟩
       have hst2 := hst.out h l wa
       have hA2 := hA0.out wa l t fl
       replace fl := Lib.hid fl)
    | (go_at_call 100; ((with_reducible refine hst2.mono ?_)); rintro en wb ⟨rfl, rfl⟩)
    | (go_at_call 102; ((with_reducible refine hA2.mono ?_)); rintro en wc ⟨rfl, g1, g2⟩
       have hrel := Lib.hid (hrel0.out _ _ _ t fh g1 g2)
       clear g1 g2 t fh))
  · clear hP0 d0 hC hc0
    generalize w.alloc (zerosI (2 * n)) = w1 at *
    go_loopw [42, 5, 6] (fun vi vo vq wr => ∃ (k y : Nat), k + 1 ≤ n ∧ vi = .int .i64 k ∧ vo = .slice (some ⟨w.heap.size, 0, none⟩) (sc E b k).2.length (2 * n) ∧ vq = .int .i64 (iw y) ∧ ScRel w w1 E b k wr y) (fun vi _ _ _ => n - (intOf vi).toNat)
    case atStart => exact ⟨0, _, by omega, rfl, rfl, rfl, hrel.out⟩
    case round =>
      obtain ⟨k, y, hk, rfl, rfl, rfl, hr⟩ := hrel
      have hO : Out wr w.heap.size (2 * n) (sc E b k).2 := by have := hr.out; rw [hnn] at this; exact this
      have tw : Turn (fun k => k = w.heap.size) w wr := (t0.out.mono fun _ _ h => h.elim).trans' hr.turn
      have hT0 : Tab wr := tab_old hT tw
      have h7 : ¬ 7 = w.heap.size := Nat.ne_of_lt (World.block_lt_of_cell? w _ (hT 0 (by omega)))
      have hK0 : Kar wr := (tw.cell (p := ⟨5, 0, none⟩) (World.block_lt_of_cell? w _ hK) (Nat.ne_of_lt (World.block_lt_of_cell? w _ hK))).trans hK
      have hsl := sc_len E b k
      by_cases hkn : k + 1 < n
      · omega
      · obtain rfl : n = k + 1 := by omega
        have hg : (sc E b k).2 ++ nz (sc E b k).1 = scaleL E b := by unfold scaleL; rw [hnn, Nat.add_sub_cancel]
        have hA := eadd_any w.heap.size (2 * (k + 1)) y (sc E b k).2 _ wr hO hr.q (fun _ => by omega) (by omega)
        rw [hg] at hA
        have hl2 : (scaleL E b).length ≤ 2 * (k + 1) := by
          rw [← hg, List.length_append]
          have := nz_len (sc E b k).1
          omega
        have hbw : w.heap.size < wr.heap.size := hO.lt
        have tt := Lib.hid hr.turn
        have hk1 : ¬ (k : Int) < ((k + 1 - 1 : Nat) : Int) := by omega
        have hk2 : ¬ k < k + 1 - 1 := by omega
        clear hr hO hT hK hK0 hT0
        go_wp2_with (go_at_call 102; ((with_reducible refine hA.mono ?_)); rintro en wc ⟨rfl, g1, g2⟩)
        go_ret
        exact ⟨_, _, rfl, hl2, g1.ls, Nat.le_refl _, (t0.out.trans tt.out fun k hk e => by omega).trans g2 fun k hk e => by omega⟩
  · clear hP0 d0 hC hc0
    generalize w.alloc (zerosI (2 * n)) = w1 at *
    go_loopw [42, 5, 6] (fun vi vo vq wr => ∃ (k y : Nat), k + 1 ≤ n ∧ vi = .int .i64 k ∧ vo = .slice (some ⟨w.heap.size, 0, none⟩) (sc E b k).2.length (2 * n) ∧ vq = .int .i64 (iw y) ∧ ScRel w w1 E b k wr y) (fun vi _ _ _ => n - (intOf vi).toNat)
    case atStart => exact ⟨0, _, by omega, rfl, rfl, rfl, hrel.out⟩
    case round =>
      obtain ⟨k, y, hk, rfl, rfl, rfl, hr⟩ := hrel
      have hO : Out wr w.heap.size (2 * n) (sc E b k).2 := by have := hr.out; rw [hnn] at this; exact this
      have tw : Turn (fun k => k = w.heap.size) w wr := (t0.out.mono fun _ _ h => h.elim).trans' hr.turn
      have hT0 : Tab wr := tab_old hT tw
      have h7 : ¬ 7 = w.heap.size := Nat.ne_of_lt (World.block_lt_of_cell? w _ (hT 0 (by omega)))
      have hK0 : Kar wr := (tw.cell (p := ⟨5, 0, none⟩) (World.block_lt_of_cell? w _ hK) (Nat.ne_of_lt (World.block_lt_of_cell? w _ hK))).trans hK
      have hsl := sc_len E b k
      by_cases hkn : k + 1 < n
      · obtain ⟨xe, ce, fe, -⟩ := hok.out (k + 1) hkn
        have hbl := World.block_lt_of_cell? w _ ce
        have c0 := (tw.cell (p := ⟨bE, oE + (k + 1), none⟩) hbl (Nat.ne_of_lt hbl)).trans ce
        rw [show oE + (k + 1) = oE + 1 + k by omega] at c0
        have hS0 := hS.out
        have hz := low_bound (hS0.u (k + 1) (by omega))
        have hP := TwoProd_z xe x _ _ wr fe hx (hS0.big (k + 1) (by omega)) hS0.mul hT0 hK0
        have hst3 := hst.out
        have hTS := fun wa l (t : Turn (fun _ => False) wr wa) (fl : FV l (pz (E.getD (k + 1) 0) b - rn (pz (E.getD (k + 1) 0) b))) => TwoSum_any y l _ _ wa hr.q fl (hS0.q k (by omega)) hz.2 (hT0.still t)
        have hA1 := fun wa l (t : Turn (fun _ => False) wr wa) (fl : FV l ((sc E b k).1 + (pz (E.getD (k + 1) 0) b - rn (pz (E.getD (k + 1) 0) b)) - rn ((sc E b k).1 + (pz (E.getD (k + 1) 0) b - rn (pz (E.getD (k + 1) 0) b))))) => eadd_any w.heap.size (2 * n) l (sc E b k).2 _ wa (hO.still t) fl (fun _ => by omega) (by omega)
        have hF := fun wa h1 h2 (hT9 : Tab wa) (f1 : FV h1 (rn (pz (E.getD (k + 1) 0) b))) (f2 : FV h2 (rn ((sc E b k).1 + (pz (E.getD (k + 1) 0) b - rn (pz (E.getD (k + 1) 0) b))))) => FastTwoSum_any h1 h2 _ _ wa f1 f2 (hS0.fast k (by omega)) hz.1 hT9
        have hA2 := fun wa l (ho : Out wa w.heap.size (2 * n) ((sc E b k).2 ++ nz ((sc E b k).1 + (pz (E.getD (k + 1) 0) b - rn (pz (E.getD (k + 1) 0) b)) - rn ((sc E b k).1 + (pz (E.getD (k + 1) 0) b - rn (pz (E.getD (k + 1) 0) b)))))) (fl : FV l (rn (pz (E.getD (k + 1) 0) b) + rn ((sc E b k).1 + (pz (E.getD (k + 1) 0) b - rn (pz (E.getD (k + 1) 0) b))) - rn (rn (pz (E.getD (k + 1) 0) b) + rn ((sc E b k).1 + (pz (E.getD (k + 1) 0) b - rn (pz (E.getD (k + 1) 0) b)))))) =>
          (show Calls Tryz.prog 102 #[.slice (some ⟨w.heap.size, 0, none⟩) ((sc E b k).2 ++ nz ((sc E b k).1 + (pz (E.getD (k + 1) 0) b - rn (pz (E.getD (k + 1) 0) b)) - rn ((sc E b k).1 + (pz (E.getD (k + 1) 0) b - rn (pz (E.getD (k + 1) 0) b))))).length (2 * n), .int .i64 (iw l)] wa (AddRes wa w.heap.size (2 * n) (sc E b (k + 1)).2) from eadd_any w.heap.size (2 * n) l _ _ wa ho fl (fun _ => by
            rw [List.length_append]
            have := nz_len ((sc E b k).1 + (pz (E.getD (k + 1) 0) b - rn (pz (E.getD (k + 1) 0) b)) - rn ((sc E b k).1 + (pz (E.getD (k + 1) 0) b - rn (pz (E.getD (k + 1) 0) b))))
            omega) (by omega))
        have hfin := Lib.hid (fun wz h (t : Turn (fun k => k = w.heap.size) wr wz) (fh : FV h (rn (rn (pz (E.getD (k + 1) 0) b) + rn ((sc E b k).1 + (pz (E.getD (k + 1) 0) b - rn (pz (E.getD (k + 1) 0) b)))))) (ho : Out wz w.heap.size (2 * n) (sc E b (k + 1)).2) => (show ScRel w w1 E b (k + 1) wz h from ⟨by rw [hnn]; exact ho, fh, hr.turn.trans' t⟩))
        generalize hL1 : (sc E b k).2 ++ nz ((sc E b k).1 + (pz (E.getD (k + 1) 0) b - rn (pz (E.getD (k + 1) 0) b)) - rn ((sc E b k).1 + (pz (E.getD (k + 1) 0) b - rn (pz (E.getD (k + 1) 0) b)))) = L1 at *
        have hn1 : (0 : Int) ≤ (k : Int) := by omega
        have hn2 : (k : Int) < ((n - 1 : Nat) : Int) := by omega
        have hn3 : k < n - 1 := by omega
        have hbw : w.heap.size < wr.heap.size := hO.lt
        replace hT0 := Lib.hid hT0
        replace hTS := Lib.hid hTS
        replace hA1 := Lib.hid hA1
        replace hA2 := Lib.hid hA2
        replace hF := Lib.hid hF
        replace hst3 := Lib.hid hst3
        replace hL1 := Lib.hid hL1
        clear hz hS0 ce fe hO hT hK hK0 hr
        go_wp2_with (first
          | (go_at_call 101; ((with_reducible refine hP.mono ?_)); rintro en wa ⟨h1, l1, rfl, f1, g1, t1⟩
             have hs1 := hst3.out h1 l1 wa
             have hTS2 := hTS.out wa l1 t1 g1
             clear hP)
          | (go_at_call 100; ((with_reducible refine hs1.mono ?_)); rintro en wq ⟨rfl, rfl⟩; clear hs1)
          | (go_at_call 78; ((with_reducible refine hTS2.mono ?_)); rintro en wb ⟨h2, l2, rfl, f2, g2, t2⟩
             have hs2 := hst3.out h2 l2 wb
             have hA3 := hA1.out wb l2 (t1.trans' t2) g2
             clear hTS2)
          | (go_at_call 100; ((with_reducible refine hs2.mono ?_)); rintro en wq ⟨rfl, rfl⟩; clear hs2)
          | (go_at_call 102; ((with_reducible refine hA3.mono ?_)); rintro en wc ⟨rfl, o1, t3⟩
             have t5 := (t1.trans' t2).mono (S' := fun k => k = w.heap.size) fun _ _ g => g.elim
             have hF2 := hF.out wc h1 h2 (tab_ne hT0.out (t5.trans' t3) h7) f1 f2
             clear hA3)
          | (go_at_call 103; ((with_reducible refine hF2.mono ?_)); rintro en wd ⟨h3, l3, rfl, f3, g3, t4⟩
             have hs3 := hst3.out h3 l3 wd
             have hA4 := hA2.out wd l3 (o1.still t4) g3
             clear hF2)
          | (go_at_call 100; ((with_reducible refine hs3.mono ?_)); rintro en wq ⟨rfl, rfl⟩; clear hs3)
          | (go_at_call 102; ((with_reducible refine hA4.mono ?_)); rintro en we ⟨rfl, o2, t6⟩
             have hrel2 := Lib.hid (hfin.out _ _ (((t5.trans' t3).trans' (t4.mono fun _ _ g => g.elim)).trans' t6) f3 o2)
             clear hA4))
        all_goals go_roundw
        case rel => exact ⟨k + 1, h3, by omega, by go_num, rfl, rfl, hrel2.out⟩
        case measure => simp [intOf]; omega
      · obtain rfl : n = k + 1 := by omega
        have hg : (sc E b k).2 ++ nz (sc E b k).1 = scaleL E b := by unfold scaleL; rw [hnn, Nat.add_sub_cancel]
        have hA := eadd_any w.heap.size (2 * (k + 1)) y (sc E b k).2 _ wr hO hr.q (fun _ => by omega) (by omega)
        rw [hg] at hA
        have hl2 : (scaleL E b).length ≤ 2 * (k + 1) := by
          rw [← hg, List.length_append]
          have := nz_len (sc E b k).1
          omega
        have hbw : w.heap.size < wr.heap.size := hO.lt
        have tt := Lib.hid hr.turn
        have hk1 : ¬ (k : Int) < ((k + 1 - 1 : Nat) : Int) := by omega
        have hk2 : ¬ k < k + 1 - 1 := by omega
        clear hr hO hT hK hK0 hT0
        go_wp2_with (go_at_call 102; ((with_reducible refine hA.mono ?_)); rintro en wc ⟨rfl, g1, g2⟩)
        go_ret
        exact ⟨_, _, rfl, hl2, g1.ls, Nat.le_refl _, (t0.out.trans tt.out fun k hk e => by omega).trans g2 fun k hk e => by omega⟩
end
section
open Go.RowKit
structure Rl (w : World) (b : Nat) : Prop where
  c0 : w.cell? ⟨b, 0, none⟩ = some (.slice none 0 0)
  f0 : w.frozen? ⟨b, 0, none⟩ = false
  c1 : w.cell? ⟨b + 1, 0, none⟩ = some (.int .i64 0)
  f1 : w.frozen? ⟨b + 1, 0, none⟩ = false
theorem Rl.lt {w : World} {b : Nat} (h : Rl w b) : b + 1 < w.heap.size := World.block_lt_of_cell? w _ h.c1
theorem Rl.still {w w' : World} {b : Nat} (h : Rl w b) (t : Turn (fun _ => False) w w') : Rl w' b := by
  have hl := h.lt
  exact ⟨(t.cell (p := ⟨b, 0, none⟩) (by show b < _; omega) id).trans h.c0, (t.frozen (p := ⟨b, 0, none⟩) (by show b < _; omega) id).trans h.f0, (t.cell (p := ⟨b + 1, 0, none⟩) hl id).trans h.c1, (t.frozen (p := ⟨b + 1, 0, none⟩) hl id).trans h.f1⟩
theorem Rl.made (w : World) : Rl ((w.alloc (.cells #[.slice none 0 0] 51)).alloc (.cells #[.int .i64 0] 30)) w.heap.size := by
  have hs := size_alloc w (.cells #[.slice none 0 0] 51)
  have t := (Turn.refl (fun _ => False) (w.alloc (.cells #[.slice none 0 0] 51))).alloc (.cells #[.int .i64 0] 30)
  have hl : w.heap.size < (w.alloc (.cells #[.slice none 0 0] 51)).heap.size := by omega
  refine ⟨(t.cell (p := ⟨w.heap.size, 0, none⟩) hl id).trans (cell_made _ _ _ 0), (t.frozen (p := ⟨w.heap.size, 0, none⟩) hl id).trans (frozen_made _ _ _ 0), ?_, ?_⟩ <;> rw [← hs]
  · exact cell_made _ _ _ 0
  · exact frozen_made _ _ _ 0
theorem Rl.put {w : World} {b : Nat} (h : Rl w b) (x y : Value) : let wz := (w.setCell ⟨b, 0, none⟩ x).setCell ⟨b + 1, 0, none⟩ y
    (wz.cell? ⟨b, 0, none⟩ = some x ∧ wz.cell? ⟨b + 1, 0, none⟩ = some y) ∧ Turn (fun k => k = b ∨ k = b + 1) w wz := by
  intro wz
  have t1 := (Turn.refl (fun k => k = b) w).setCell (p := ⟨b, 0, none⟩) (fun _ => rfl) x
  have c0 := World.cell?_setCell_same w _ x h.c0
  have hl := World.block_lt_of_cell? _ _ c0
  have c1 := (t1.cell (p := ⟨b + 1, 0, none⟩) h.lt (by simp)).trans h.c1
  have t2 := (Turn.refl (fun k => k = b + 1) (w.setCell ⟨b, 0, none⟩ x)).setCell (p := ⟨b + 1, 0, none⟩) (fun _ => rfl) y
  exact ⟨⟨(t2.cell (p := ⟨b, 0, none⟩) hl (by simp)).trans c0, World.cell?_setCell_same _ _ _ c1⟩, (t1.mono fun _ _ g => .inl g).trans' (t2.mono fun _ _ g => .inr g)⟩
def LRes2 (w : World) (L : List Int) (en : Ending) (w' : World) : Prop := ∃ a c, en = .returned (.tuple #[.slice a L.length c, .int .i64 0]) ∧ L.length ≤ c ∧ Ls w' a L ∧ Turn (fun _ => False) w w'
def pq (E F : List Int) : Nat → List Int
  | 0 => []
  | i + 1 => sq (pq E F i) (scaleL E (F.getD i 0)) (scaleL E (F.getD i 0)).length
structure POk (E F : List Int) : Prop where
  vE : Vld E
  vF : Vld F
  lE : E.length ≤ 4096
  lF : F.length ≤ 4096
  nE : E ≠ []
  s : ∀ i, i < F.length → SOk E (F.getD i 0)
  ne : ∀ i, i < F.length → scaleL E (F.getD i 0) ≠ []
  sl : ∀ i, i < F.length → (scaleL E (F.getD i 0)).length ≤ 100000
  g : ∀ i, i < F.length → ∀ j, j < (scaleL E (F.getD i 0)).length → GOk (sq (pq E F i) (scaleL E (F.getD i 0)) j) ((scaleL E (F.getD i 0)).getD j 0)
  len : ∀ i, i ≤ F.length → (pq E F i).length ≤ 4096
structure PrRel (w1 : World) (E F : List Int) (i : Nat) (wr : World) (a : Option Addr) : Prop where
  ls : Ls wr a (pq E F i)
  new : ∀ b o, a = some ⟨b, o, none⟩ → w1.heap.size ≤ b
  turn : Turn (fun _ => False) w1 wr
set_option maxRecDepth 100000 in
set_option maxHeartbeats 4000000 in
theorem Product_any (a f : Option Addr) (c d : Nat) (E F : List Int) (w : World) (hE : Ls w a E) (hc : E.length ≤ c) (hF : Ls w f F) (hd : F.length ≤ d) (hP : POk E F) (hT : Tab w) (hK : Kar w) :
    Calls Tryz.prog 47 #[.slice a E.length c, .slice f F.length d] w (LRes2 w (pq E F F.length)) := by
  have hR := (Rl.made w).still ((Turn.refl (fun _ => False) _).alloc (.cells #[.slice a E.length c, .slice f F.length d] 51))
  have t1 := (((Turn.refl (fun _ => False) w).alloc (.cells #[.slice none 0 0] 51)).alloc (.cells #[.int .i64 0] 30)).alloc (.cells #[.slice a E.length c, .slice f F.length d] 51)
  have hcm := fun i => cell_made #[.slice a E.length c, .slice f F.length d] 51 ((w.alloc (.cells #[.slice none 0 0] 51)).alloc (.cells #[.int .i64 0] 30)) i
  rw [size_alloc, size_alloc] at hcm
  have hV := valid_all (w.heap.size + 1 + 1) 2 2 (((w.alloc (.cells #[.slice none 0 0] 51)).alloc (.cells #[.int .i64 0] 30)).alloc (.cells #[.slice a E.length c, .slice f F.length d] 51)) (by omega) (fun j hj => by
    rcases (by omega : j = 0 ∨ j = 1) with rfl | rfl
    · exact ⟨a, E, c, hcm 0, hE.still t1, hP.vE, hP.lE⟩
    · exact ⟨f, F, d, hcm 1, hF.still t1, hP.vF, hP.lF⟩)
  have hE1 := hE.still t1
  have hF1 := hF.still t1
  have hT1 := hT.still t1
  have hK1 := hK.still t1
  have h0 : PrRel (((w.alloc (.cells #[.slice none 0 0] 51)).alloc (.cells #[.int .i64 0] 30)).alloc (.cells #[.slice a E.length c, .slice f F.length d] 51)) E F 0 (((w.alloc (.cells #[.slice none 0 0] 51)).alloc (.cells #[.int .i64 0] 30)).alloc (.cells #[.slice a E.length c, .slice f F.length d] 51)) none := ⟨.inl rfl, fun b o e => (by cases e), Turn.refl _ _⟩
  have hm4 := hP.lF
  replace hR := Lib.hid hR
  replace t1 := Lib.hid t1
  replace hP := Lib.hid hP
  replace h0 := Lib.hid h0
  replace hE1 := Lib.hid hE1
  replace hF1 := Lib.hid hF1
  replace hT1 := Lib.hid hT1
  replace hK1 := Lib.hid hK1
  clear hcm hE hF hT hK
  generalize hnn : E.length = n at *
  generalize hmm : F.length = m at *
  go_enter_defers Tryz.func47, Tryz.ntmps47
  go_wp2_with (go_at_call 69; ((with_reducible refine hV.mono ?_)); rintro en wa ⟨rfl, rfl⟩)
  generalize ((w.alloc (.cells #[.slice none 0 0] 51)).alloc (.cells #[.int .i64 0] 30)).alloc (.cells #[.slice a n c, .slice f m d] 51) = w1 at *
  go_loopw [19, 7] (fun vi vh wr => ∃ (k : Nat) (b : Option Addr) (e : Nat), k ≤ m ∧ vi = .int .i64 k ∧ vh = .slice b (pq E F k).length e ∧ (pq E F k).length ≤ e ∧ PrRel w1 E F k wr b) (fun vi _ _ => m - (intOf vi).toNat)
  case atStart => exact ⟨0, none, 0, Nat.zero_le _, rfl, rfl, Nat.le_refl _, h0.out⟩
  case round =>
    obtain ⟨k, b, e, hk, rfl, rfl, hbe, hrel⟩ := hrel
    by_cases hkm : k < m
    · rcases hF1.out with h | ⟨bF, oF, rfl, hok⟩
      · rw [h] at hmm; simp at hmm; omega
      obtain ⟨xf, cf, ff', hf0⟩ := hok k (by omega)
      have hbl := World.block_lt_of_cell? w1 _ cf
      have c0 := (hrel.turn.cell (p := ⟨bF, oF + k, none⟩) hbl id).trans cf
      have hPo := hP.out
      have hSc := scale_any a c xf E (F.getD k 0) wr (hE1.out.still hrel.turn) (by omega) ff' hPo.nE hf0 (hPo.s k (by omega)) (hT1.out.still hrel.turn) (hK1.out.still hrel.turn)
      rw [hnn] at hSc
      have hSm := fun wa b2 c2 (h1 : (scaleL E (F.getD k 0)).length ≤ c2) (h2 : Ls wa (some ⟨b2, 0, none⟩) (scaleL E (F.getD k 0))) (t : Turn (fun _ => False) wr wa) => (show Calls Tryz.prog 70 #[.slice b (pq E F k).length e, .slice (some ⟨b2, 0, none⟩) (scaleL E (F.getD k 0)).length c2] wa (LRes wa (pq E F (k + 1))) from
        sum_any b (some ⟨b2, 0, none⟩) e c2 (pq E F k) (scaleL E (F.getD k 0)) wa (hrel.ls.still t) hbe h2 (hPo.sl k (by omega)) (hPo.ne k (by omega)) (hPo.g k (by omega)) (Nat.le_trans (hPo.len (k + 1) (by omega)) (by omega)) ((hT1.out.still hrel.turn).still t) (by
          rcases hrel.ls with g | ⟨b', o', g, -⟩
          · exact .inl g
          · exact .inr ⟨b', o', g⟩))
      have hn1 : (0 : Int) ≤ (k : Int) := by omega
      have hn2 : (k : Int) < m := by omega
      replace hkm := Lib.hid hkm
      have ht := Lib.hid hrel.turn
      clear ff' hf0
      generalize F.getD k 0 = fk at hSc hSm
      replace hSm := Lib.hid hSm
      clear hok cf hPo hrel
      go_wp2_with (first
        | (go_at_call 71; ((with_reducible refine hSc.mono ?_)); rintro en wa ⟨b2, c2, rfl, q1, q2, q3, q4⟩
           have hSm2 := hSm.out wa b2 c2 q1 q2 q4
           replace q4 := Lib.hid q4
           clear q1 q2 q3)
        | (go_at_call 70; ((with_reducible refine hSm2.mono ?_)); rintro en wb ⟨a2, c3, rfl, r1, r2, r3, r4⟩
           have hrel2 := Lib.hid (show PrRel w1 E F (k + 1) wb a2 from ⟨r2, fun b o e => Nat.le_trans (ht.out.trans' q4.out).size (r3 b o e).1, (ht.out.trans' q4.out).trans' r4⟩)
           clear hSm2 r2 r3 r4))
      all_goals go_roundw
      case rel => exact ⟨k + 1, a2, c3, hkm.out, by go_num, rfl, r1, hrel2.out⟩
      case measure => have := hkm.out; simp [intOf]; omega
    · obtain rfl : k = m := by omega
      have hTo := etold_any b (pq E F k).length e (hP.out.len k (by omega)) wr
      have hq := hR.out.still hrel.turn
      have hls := hrel.ls
      have hnew := hrel.new
      obtain ⟨q0, g0, q1, g1⟩ := hq
      have hq := Lib.hid (hR.out.still hrel.turn)
      have tt := Lib.hid (t1.out.trans' hrel.turn)
      replace hls := Lib.hid hls
      have hl1 := Lib.hid (show w.heap.size + 1 < w1.heap.size from hR.out.lt)
      replace hnew := Lib.hid hnew
      clear hrel
      go_wp2_with (go_at_call 72; ((with_reducible refine hTo.mono ?_)); rintro en wa ⟨rfl, rfl⟩)
      obtain ⟨⟨r0, r1⟩, hz⟩ := hq.out.put (.slice b (pq E F k).length e) (.int .i64 0)
      generalize (wr.setCell ⟨w.heap.size, 0, none⟩ (.slice b (pq E F k).length e)).setCell ⟨w.heap.size + 1, 0, none⟩ (.int .i64 0) = wz at *
      refine leaves_cons (f := 68) (args := #[.pointer (some ⟨w.heap.size, 0, none⟩), .pointer (some ⟨w.heap.size + 1, 0, none⟩)]) (by simp) (by simp [go_sem]) ?_
      refine (ecaught_idle _ _ _).mono ?_
      rintro e9 u' w'' ⟨rfl, rfl, rfl⟩
      have hfin : LRes2 w (pq E F k) (.returned (.tuple #[.slice b (pq E F k).length e, .int .i64 0])) w'' := ⟨b, e, rfl, hbe, hls.out.turn hz fun kk _ g o ha => by
        have := hnew.out kk o ha
        have := hl1.out
        omega, tt.out.trans hz fun kk hk g => by omega⟩
      simp [Leaves, settle, results, Tryz.results47, go_sem, r0, r1]
      exact hfin
end
end Go.Proofs.YtllapbkoildfiaaGreatFmt
