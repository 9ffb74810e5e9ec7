/- The law PointLaws is proved: the order of points goes on, turns with its arguments, takes -0 for 0, and rises from bits to the next bits. No condition. -/
import Derived.Test.YtbmgjbpcijbocaaLaws
namespace Go.Proofs.Ytbmgjbpcijbocaa.pointLaws
open Go.ChangeShapes Go.WideShapes Go.ChangeAt Go.RowKit Go.Joins

theorem and_65535 (n : Int) : bits .and .i64 n 65535 = n % 65536 := by
  have h65535 : (BitVec.ofInt 64 65535).toNat = 2 ^ 16 - 1 := by decide
  have key : (BitVec.ofInt 64 n &&& BitVec.ofInt 64 65535).toNat = (n % ((2 ^ 64 : Nat) : Int)).toNat % 2 ^ 16 := by
    rw [BitVec.toNat_and, BitVec.toNat_ofInt, h65535, Nat.and_two_pow_sub_one_eq_mod]
  show IntKind.i64.wrap ((BitVec.ofInt 64 n &&& BitVec.ofInt 64 65535).toNat : Nat) = n % 65536
  rw [key, IntKind.wrap_i64]
  omega

theorem or_least (n : Int) (h1 : 0 ≤ n) (h2 : n < 9223372036854775808) : bits .or .i64 n (-9223372036854775808) = n - 9223372036854775808 := by
  have hl : (BitVec.ofInt 64 (-9223372036854775808)).toNat = 2 ^ 63 := by decide
  have hn : (BitVec.ofInt 64 n).toNat = n.toNat := by rw [BitVec.toNat_ofInt]; omega
  have key : (BitVec.ofInt 64 n ||| BitVec.ofInt 64 (-9223372036854775808)).toNat = 2 ^ 63 + n.toNat := by
    rw [BitVec.toNat_or, hl, hn, Nat.or_comm]
    have := Nat.two_pow_add_eq_or_of_lt (i := 63) (b := n.toNat) (by omega) 1
    simpa using this.symm
  show IntKind.i64.wrap ((BitVec.ofInt 64 n ||| BitVec.ofInt 64 (-9223372036854775808)).toNat : Nat) = _
  rw [key, IntKind.wrap_i64]
  omega

theorem fin_of_rank (b : Int) (h : In64 b) (hr : -9218868437227405312 < rankF b) (hr2 : rankF b < 9218868437227405312) : fin b = true := by
  rw [fin_iff]
  have := rg_wd b h.1 h.2
  unfold rankF at hr hr2
  split at this <;> rename_i hb
  · rw [if_pos hb] at hr; omega
  · rw [if_neg hb] at hr2; omega

theorem rank_nonneg {b : Int} (h : 0 ≤ b) : rankF b = b := by unfold rankF; rw [if_neg (by omega)]
theorem rank_neg {b : Int} (h : b < 0) : rankF b = -(b + 9223372036854775808) := by unfold rankF; rw [if_pos h]

theorem ordI_or (ax ay bx bY : Int) : (ordI ax ay bx bY = -1 ∧ (rankF ax < rankF bx ∨ rankF ax = rankF bx ∧ rankF ay < rankF bY)) ∨ (ordI ax ay bx bY = 0 ∧ rankF ax = rankF bx ∧ rankF ay = rankF bY) ∨ (ordI ax ay bx bY = 1 ∧ (rankF bx < rankF ax ∨ rankF ax = rankF bx ∧ rankF bY < rankF ay)) := by
  unfold ordI cmpI
  rcases Int.lt_trichotomy (rankF ax) (rankF bx) with h | h | h
  · left; rw [if_pos h, if_neg (by omega)]; exact ⟨rfl, Or.inl h⟩
  · rw [if_neg (by omega : ¬ rankF ax < rankF bx), if_neg (by omega : ¬ rankF bx < rankF ax), if_pos rfl]
    rcases Int.lt_trichotomy (rankF ay) (rankF bY) with g | g | g
    · left; rw [if_pos g]; exact ⟨rfl, Or.inr ⟨h, g⟩⟩
    · right; left; rw [if_neg (by omega), if_neg (by omega)]; exact ⟨rfl, h, g⟩
    · right; right; rw [if_neg (by omega), if_pos g]; exact ⟨rfl, Or.inr ⟨h, g⟩⟩
  · right; right; rw [if_neg (by omega : ¬ rankF ax < rankF bx), if_pos h, if_neg (by omega)]; exact ⟨rfl, Or.inl h⟩

theorem ordI_back (ax ay bx bY : Int) : ordI bx bY ax ay = -ordI ax ay bx bY := by
  rcases ordI_or ax ay bx bY with h | h | h <;> rcases ordI_or bx bY ax ay with g | g | g <;> omega

theorem ordI_on (ax ay bx bY cx cy : Int) : (ordI ax ay bx bY ≤ 0 → ordI bx bY cx cy ≤ 0 → ordI ax ay cx cy ≤ 0) ∧ (ordI ax ay bx bY < 0 → ordI bx bY cx cy ≤ 0 → ordI ax ay cx cy < 0) := by
  rcases ordI_or ax ay bx bY with h | h | h <;> rcases ordI_or bx bY cx cy with g | g | g <;> rcases ordI_or ax ay cx cy with k | k | k <;> constructor <;> intro _ _ <;> omega

theorem cmps_of (ax ay bx bY : Int) (h1 : In64 ax) (h2 : In64 ay) (h3 : In64 bx) (h4 : In64 bY) (f1 : fin ax = true) (f2 : fin ay = true) (f3 : fin bx = true) (f4 : fin bY = true) : Cmps ax ay bx bY (ordI ax ay bx bY) 0 := fun w => by
  rw [← ordW_eq ax ay bx bY h1 h2 h3 h4 f1 f2 f3 f4]
  rcases bothF_or ax ay bx bY with ⟨hb, _⟩ | ⟨_, hn⟩
  · exact cmp_yes ax ay bx bY w hb
  · exact absurd ⟨⟨f1, f2⟩, f3, f4⟩ hn

theorem cmps_no (ax ay bx bY : Int) (hn : ¬ ((fin ax = true ∧ fin ay = true) ∧ (fin bx = true ∧ fin bY = true))) : Cmps ax ay bx bY 0 10 := fun w => by
  rcases bothF_or ax ay bx bY with ⟨_, hf⟩ | ⟨hb, _⟩
  · exact absurd hf hn
  · exact cmp_no ax ay bx bY w hb

/-- Cmp of any two points: some answer and some error. -/
theorem cmps_any (ax ay bx bY : Int) : ∃ c e, Cmps ax ay bx bY c e := by
  rcases bothF_or ax ay bx bY with ⟨hb, _⟩ | ⟨hb, _⟩
  · exact ⟨_, _, fun w => cmp_yes ax ay bx bY w hb⟩
  · exact ⟨_, _, fun w => cmp_no ax ay bx bY w hb⟩

theorem least64 : In64 (-9223372036854775808) := ⟨by omega, by omega⟩
theorem zero64 : In64 0 := ⟨by omega, by omega⟩
theorem least_fin : fin (-9223372036854775808) = true := fin_of_rank _ least64 (by rw [rank_neg (by omega)]; omega) (by rw [rank_neg (by omega)]; omega)
theorem zero_fin : fin 0 = true := fin_of_rank _ zero64 (by rw [rank_nonneg (by omega)]; omega) (by rw [rank_nonneg (by omega)]; omega)
theorem small_fin (n : Int) (h1 : 0 ≤ n) (h2 : n ≤ 9214364837600034816) : In64 n ∧ fin n = true := by
  have h : In64 n := ⟨by omega, by omega⟩
  exact ⟨h, fin_of_rank _ h (by rw [rank_nonneg h1]; omega) (by rw [rank_nonneg h1]; omega)⟩

theorem hp (n : Int) (h1 : 0 ≤ n) (h2 : n < 9214364837600034816) : Cmps n (-9223372036854775808) n 0 0 0 := by
  obtain ⟨hn, fn⟩ := small_fin n h1 (by omega)
  have h := cmps_of n (-9223372036854775808) n 0 hn least64 hn zero64 fn least_fin fn zero_fin
  have e : ordI n (-9223372036854775808) n 0 = 0 := by
    have r1 := rank_neg (b := -9223372036854775808) (by omega)
    have r2 := rank_nonneg (b := 0) (by omega)
    rcases ordI_or n (-9223372036854775808) n 0 with g | g | g <;> omega
  rwa [e] at h

theorem hq (ax n : Int) (h1 : 0 ≤ n) (h2 : n < 9214364837600034816) : Cmps n (bits .and .i64 ax 65535) (n + 1) (-9223372036854775808) (-1) 0 := by
  obtain ⟨hn, fn⟩ := small_fin n h1 (by omega)
  obtain ⟨hm, fm⟩ := small_fin (n + 1) (by omega) (by omega)
  rw [and_65535]
  obtain ⟨ha, fa⟩ := small_fin (ax % 65536) (by omega) (by omega)
  have h := cmps_of n (ax % 65536) (n + 1) (-9223372036854775808) hn ha hm least64 fn fa fm least_fin
  have e : ordI n (ax % 65536) (n + 1) (-9223372036854775808) = -1 := by
    have r1 := rank_nonneg h1
    have r2 := rank_nonneg (b := n + 1) (by omega)
    rcases ordI_or n (ax % 65536) (n + 1) (-9223372036854775808) with g | g | g <;> omega
  rwa [e] at h

theorem hr (n : Int) (h1 : 0 ≤ n) (h2 : n < 9214364837600034816) : Cmps (bits .or .i64 (n + 1) (-9223372036854775808)) 0 (bits .or .i64 n (-9223372036854775808)) 0 (-1) 0 := by
  rw [or_least n h1 (by omega), or_least (n + 1) (by omega) (by omega)]
  have i1 : In64 (n + 1 - 9223372036854775808) := ⟨by omega, by omega⟩
  have i2 : In64 (n - 9223372036854775808) := ⟨by omega, by omega⟩
  have r1 := rank_neg (b := n + 1 - 9223372036854775808) (by omega)
  have r2 := rank_neg (b := n - 9223372036854775808) (by omega)
  have h := cmps_of (n + 1 - 9223372036854775808) 0 (n - 9223372036854775808) 0 i1 zero64 i2 zero64 (fin_of_rank _ i1 (by omega) (by omega)) zero_fin (fin_of_rank _ i2 (by omega) (by omega)) zero_fin
  have e : ordI (n + 1 - 9223372036854775808) 0 (n - 9223372036854775808) 0 = -1 := by
    rcases ordI_or (n + 1 - 9223372036854775808) 0 (n - 9223372036854775808) 0 with g | g | g <;> omega
  rwa [e] at h

theorem walk (ax ay bx bY cx cy n : Int) (h1 : In64 ax) (h2 : In64 ay) (h3 : In64 bx) (h4 : In64 bY) (h5 : In64 cx) (h6 : In64 cy) (w : World) :
    Calls Try.prog 4 #[.agg #[.int .i64 ax, .int .i64 ay], .agg #[.int .i64 bx, .int .i64 bY], .agg #[.int .i64 cx, .int .i64 cy], .int .i64 n] w (Ends w (.bool true)) := by
  by_cases fa : fin ax = true ∧ fin ay = true
  · by_cases fb : fin bx = true ∧ fin bY = true
    · by_cases fc : fin cx = true ∧ fin cy = true
      · have k1 := cmps_of ax ay bx bY h1 h2 h3 h4 fa.1 fa.2 fb.1 fb.2
        have k2 := cmps_of bx bY cx cy h3 h4 h5 h6 fb.1 fb.2 fc.1 fc.2
        have k3 := cmps_of ax ay cx cy h1 h2 h5 h6 fa.1 fa.2 fc.1 fc.2
        have k4 := cmps_of bx bY ax ay h3 h4 h1 h2 fb.1 fb.2 fa.1 fa.2
        rw [ordI_back] at k4
        have x1 : -1 ≤ ordI ax ay bx bY ∧ ordI ax ay bx bY ≤ 1 := by rcases ordI_or ax ay bx bY with h | h | h <;> omega
        have on := ordI_on ax ay bx bY cx cy
        by_cases c1 : 0 < ordI ax ay bx bY
        · exact pos_x ax ay bx bY cx cy n _ _ _ w x1.1 x1.2 c1 k1 k2 k3 k4 (hp n) (hq ax n) (hr n)
        · by_cases c2 : 0 < ordI bx bY cx cy
          · by_cases c3 : ordI ax ay bx bY < 0
            · exact neg_pos ax ay bx bY cx cy n _ _ _ w x1.1 x1.2 c3 c2 k1 k2 k3 k4 (hp n) (hq ax n) (hr n)
            · exact zero_pos ax ay bx bY cx cy n _ _ _ w x1.1 x1.2 (by omega) (by omega) c2 k1 k2 k3 k4 (hp n) (hq ax n) (hr n)
          · by_cases c3 : ordI ax ay bx bY < 0
            · exact neg_le ax ay bx bY cx cy n _ _ _ w x1.1 x1.2 c3 (by omega) (on.2 c3 (by omega)) k1 k2 k3 k4 (hp n) (hq ax n) (hr n)
            · exact zero_le ax ay bx bY cx cy n _ _ _ w x1.1 x1.2 (by omega) (by omega) (by omega) (on.1 (by omega) (by omega)) k1 k2 k3 k4 (hp n) (hq ax n) (hr n)
      · have k1 := cmps_of ax ay bx bY h1 h2 h3 h4 fa.1 fa.2 fb.1 fb.2
        have k2 := cmps_no bx bY cx cy (fun h => fc h.2)
        obtain ⟨z, e3, k3⟩ := cmps_any ax ay cx cy
        obtain ⟨b, e4, k4⟩ := cmps_any bx bY ax ay
        exact second_none ax ay bx bY cx cy n _ _ z b 10 e3 e4 w (by omega) k1 k2 k3 k4 (hp n) (hq ax n) (hr n)
    · have k1 := cmps_no ax ay bx bY (fun h => fb h.2)
      obtain ⟨y, e2, k2⟩ := cmps_any bx bY cx cy
      obtain ⟨z, e3, k3⟩ := cmps_any ax ay cx cy
      obtain ⟨b, e4, k4⟩ := cmps_any bx bY ax ay
      exact first_none ax ay bx bY cx cy n _ y z b 10 e2 e3 e4 w (by omega) k1 k2 k3 k4 (hp n) (hq ax n) (hr n)
  · have k1 := cmps_no ax ay bx bY (fun h => fa h.1)
    obtain ⟨y, e2, k2⟩ := cmps_any bx bY cx cy
    obtain ⟨z, e3, k3⟩ := cmps_any ax ay cx cy
    obtain ⟨b, e4, k4⟩ := cmps_any bx bY ax ay
    exact first_none ax ay bx bY cx cy n _ y z b 10 e2 e3 e4 w (by omega) k1 k2 k3 k4 (hp n) (hq ax n) (hr n)

set_option maxRecDepth 100000 in
theorem lifted (os : Os) (started : os.Started) (H : Type) (enc : TypeId × Value → H) :
    ReturnsInHanded {} Try.checked os 4 .any (Rows.pointLawsSpec.pre6 enc Try.prog Try.f4 Rows.pointLawsRow.domain false) (Rows.pointLawsSpec.post enc Try.prog Try.f4 false true false false) := by
  refine returnsInHanded_of_change (C := Try.checked) own started (by kernel_rfl) Try.func4
    (ChangeSpec.witness6 (enc := enc) (C := Try.checked) false ⟨#[], #[.agg #[.int .i64 0, .int .i64 0], .agg #[.int .i64 0, .int .i64 0], .agg #[.int .i64 0, .int .i64 0], .int .i64 0], []⟩ 8 (by kernel_rfl) (by kernel_rfl) (by kernel_rfl) (by kernel_rfl)) ?_
  intro W base args ds gs before hval0 hW _ _
  have hval : ∀ (j : Nat) t v, Try.f4.params[j]? = some t → args[j]? = some v → Value.okWide Try.prog W .any base t v := hval0
  have hW' := hW
  obtain ⟨p, q, hA0, hV, rfl, _, _⟩ := hW
  have hA : DataW.TrodAll enc Try.prog W 0 (fun _ => true) true Try.f4.params.toList args.toList ds p := hA0
  rw [Try.params4] at hA hval
  obtain ⟨v0, v1, v2, v3, d0, d1, d2, d3, p0, p1, p2, p3, rfl, rfl, rfl, h0, h1, h2, h3⟩ := trodAll_four hA
  obtain ⟨rfl, rfl⟩ := trodVars_none hV
  obtain ⟨c0, c1, y0, y1, m, rfl, rfl, rfl, hy0, hy1⟩ := open_agg2 Try.underlying25 (by kernel_rfl) cells25 (hval 0 25 v0 rfl rfl) h0
  obtain ⟨c2, c3, y2, y3, m2, rfl, rfl, rfl, hy2, hy3⟩ := open_agg2 Try.underlying25 (by kernel_rfl) cells25 (hval 1 25 v1 rfl rfl) h1
  obtain ⟨c4, c5, y4, y5, m3, rfl, rfl, rfl, hy4, hy5⟩ := open_agg2 Try.underlying25 (by kernel_rfl) cells25 (hval 2 25 v2 rfl rfl) h2
  obtain ⟨n, rfl, rfl, rfl, wn⟩ := open_int Try.underlying3 (hval 3 3 v3 rfl rfl) h3
  obtain ⟨a, e0, rfl, wa⟩ := DataW.trod_int Try.underlying3 hy0
  obtain ⟨b, e1, rfl, wb⟩ := DataW.trod_int Try.underlying3 hy1
  obtain ⟨c, e2, rfl, wc⟩ := DataW.trod_int Try.underlying3 hy2
  obtain ⟨d, e3, rfl, wd⟩ := DataW.trod_int Try.underlying3 hy3
  obtain ⟨e, e4, rfl, we⟩ := DataW.trod_int Try.underlying3 hy4
  obtain ⟨f, e5, rfl, wf⟩ := DataW.trod_int Try.underlying3 hy5
  simp at e0 e1 e2 e3 e4 e5
  subst e0 e1 e2 e3 e4 e5
  clear hA0 hval0
  have reads : ∀ (a b : Int) (_ : (Lit.int .i64 a).wf = true) (_ : (Lit.int .i64 b).wf = true) (W' : World) (sp : Nat → Bool), DataW.Trod enc Try.prog W' 0 sp true 25 (.agg #[.int .i64 a, .int .i64 b]) (.agg [.lit (.int .i64 a), .lit (.int .i64 b)]) [] := fun a b wa wb W' sp =>
    shut_agg2 (y0 := (.lit (.int .i64 a), [])) (y1 := (.lit (.int .i64 b), [])) Try.underlying25 (by kernel_rfl) cells25 ⟨1, by simp [DataW.trod, Try.underlying3, wa]⟩ ⟨1, by simp [DataW.trod, Try.underlying3, wb]⟩
  refine (walk a b c d e f n (bounds wa) (bounds wb) (bounds wc) (bounds wd) (bounds we) (bounds wf) W).mono fun e' W' ⟨he, hg⟩ => ?_
  subst he
  exact ⟨_, rfl, _, _, _, [], _, [], hW', trodAll_mk1 (shut_bool Try.underlying4 _), trodAll_mk4 (reads a b wa wb W' _) (reads c d wc wd W' _) (reads e f we wf W' _) (shut_int Try.underlying3 wn), rfl, hg.frame _, fun h => by cases h⟩

theorem proved : Rows.PointLawsSaid :=
  OpenClaim.holds_of_wide 4 Try.f4 rfl rfl rfl rfl rfl rfl rfl ⟨rfl, rfl, rfl, rfl, rfl⟩ rfl rfl rfl rfl rfl (by kernel_rfl) Try.func4 (by kernel_rfl)
    (of_decide_eq_true (by kernel_rfl)) (by unfold Func.isWrapper; first | (rw [if_pos (by decide +kernel)]; kernel_rfl) | (rw [if_neg (by decide +kernel)]; exact ⟨rfl, rfl⟩))
    (fun os started H enc _ => lifted os started H enc)
#print axioms proved
end Go.Proofs.Ytbmgjbpcijbocaa.pointLaws
