/- orient: tame of tame points, joined with the plain law · orient: Sign. -/
import Derived.Test.YtllapbkoildfiaaGreatFmtM46
import Derived.Test.YtllapbkoildfiaaGreatFmtM45
set_option linter.all false
set_option exponentiation.threshold 100000
namespace Go.Proofs.YtllapbkoildfiaaGreatFmt
section
open Go.RowKit
theorem fv_mid {x : Nat} (h : tm x = true) : (fv x).natAbs < 2 ^ 2080 := lt_pw (tm_val h).2 (by omega)
theorem two_prods {a b c e : Int} (ha : Dif a) (hb : Dif b) (hc : Dif c) (he : Dif e) :
    DOk (pq (Ap a) (Ap b) (Ap b).length) (pq (Ap c) (Ap e) (Ap e).length) ∧ Exq (sq (pq (Ap a) (Ap b) (Ap b).length) (negL (pq (Ap c) (Ap e) (Ap e).length)) (negL (pq (Ap c) (Ap e) (Ap e).length)).length) 670 1766 ∧
    tot (sq (pq (Ap a) (Ap b) (Ap b).length) (negL (pq (Ap c) (Ap e) (Ap e).length)) (negL (pq (Ap c) (Ap e) (Ap e).length)).length) * 2 ^ 1074 = a * b - c * e ∧
    (sq (pq (Ap a) (Ap b) (Ap b).length) (negL (pq (Ap c) (Ap e) (Ap e).length)) (negL (pq (Ap c) (Ap e) (Ap e).length)).length).length ≤ 16 := by
  obtain ⟨p1, p2, p3⟩ := ha.prod hb
  obtain ⟨q1, q2, q3⟩ := hc.prod he
  obtain ⟨r1, r2, r3, r4⟩ := dok p1 q1 p3 q3 (tot_ne q2 hc.1 he.1)
  exact ⟨r1, r2, by rw [r3, Int.sub_mul, p2, q2], r4⟩
theorem tot_eq {T A B : Int} (h : T * 2 ^ 1074 = A * 2 ^ 1074 - B * 2 ^ 1074) : T = A - B := by
  rw [← Int.sub_mul] at h
  exact Int.eq_of_mul_eq_mul_right (Int.ne_of_gt (pow_pos2 1074)) h
theorem lit106 : (2 : Int) ^ 106 = 81129638414606681695789005144064 := by decide
theorem lit159 : (2 : Int) ^ 159 = 730750818665451459101842416358141509827966271488 := by decide
theorem sum_bd {x y : Int} {n : Nat} (hx : x.natAbs ≤ 2 ^ n) (hy : y.natAbs ≤ 2 ^ n) : (x + y).natAbs < 2 ^ (n + 2) := by
  have := Nat.two_pow_pos n
  rw [Nat.pow_add]
  generalize 2 ^ n = m at *
  omega
theorem nb_ne {L R : Int} (h : ¬ (L = 0 ∨ (0 < L ∧ R ≤ 0) ∨ (L < 0 ∧ 0 ≤ R))) : L ≠ 0 ∧ R ≠ 0 := by omega
theorem tails_ok {a1 b1 a2 b2 T L R Z : Int} {u1 v1 u2 v2 zc : Nat} (A1 : Tp a1) (B1 : Tp b1) (A2 : Tp a2) (B2 : Tp b2) (fu1 : FV u1 (rn a1)) (fv1 : FV v1 (rn b1)) (fu2 : FV u2 (rn a2)) (fv2 : FV v2 (rn b2))
    (mT : Md (rn T) 1379) (fzc : FV zc (rn Z)) (hzb : (rn Z).natAbs ≤ 2 ^ 1440) (hL : L * 2 ^ 1074 = rn (rn a1 * rn b2)) (hR : R * 2 ^ 1074 = rn (rn b1 * rn a2)) (hT : T * 2 ^ 1074 = rn a1 * rn b2 - rn b1 * rn a2)
    (hZ : 730750818665451459101842416358141509827966271488 * Z = 81064793292668992 * rn ((L.natAbs : Int) + (R.natAbs : Int))) (h0 : L ≠ 0) (near x1 x2 x3 x4 : Nat) (fn : FV near (rn T)) (f1 : FV x1 (a1 - rn a1)) (f2 : FV x2 (b1 - rn b1)) (f3 : FV x3 (a2 - rn a2)) (f4 : FV x4 (b2 - rn b2)) :
    ∃ zk bd m1 m2 m3 m4 s1 s2 s3 dC, floatBits .mul .f64 4375247037990436866 (near % 9223372036854775808) = some zk ∧ floatBits .add .f64 zc zk = some bd ∧ floatBits .mul .f64 u1 x4 = some m1 ∧ floatBits .mul .f64 v2 x1 = some m2 ∧ floatBits .add .f64 m1 m2 = some s1 ∧ floatBits .mul .f64 v1 x3 = some m3 ∧ floatBits .mul .f64 u2 x2 = some m4 ∧ floatBits .add .f64 m3 m4 = some s2 ∧ floatBits .sub .f64 s1 s2 = some s3 ∧ floatBits .add .f64 near s3 = some dC ∧ NN bd ∧ NN dC ∧ (rk bd ≤ rk (dC % 9223372036854775808) → sgn (rk dC) = sgn (a1 * b2 - b1 * a2)) := by
  obtain ⟨Z2, zk, k1, k2, k3, k4⟩ := md_const (j := 106) cstK fn.abs mT.abs (by decide) (by decide) (by decide)
  have k5 : (rn Z2).natAbs ≤ 2 ^ 1440 := le_pw k4 (by decide)
  obtain ⟨bd, d1, d2⟩ := fadd (N := 1440 + 2) fzc k2 (sum_bd hzb k5) (by decide)
  obtain ⟨m1, e1, g1⟩ := big_mul fu1 f4 A1.big B2.tail A1.rnb B2.tb
  obtain ⟨m2, e2, g2⟩ := big_mul fv2 f1 B2.big A1.tail B2.rnb A1.tb
  obtain ⟨m3, e3, g3⟩ := big_mul fv1 f3 B1.big A2.tail B1.rnb A2.tb
  obtain ⟨m4, e4, g4⟩ := big_mul fu2 f2 A2.big B1.tail A2.rnb B1.tb
  have M1 := (big_md A1.big B2.tail A1.rnb B2.tb).rn
  have M2 := (big_md B2.big A1.tail B2.rnb A1.tb).rn
  have M3 := (big_md B1.big A2.tail B1.rnb A2.tb).rn
  have M4 := (big_md A2.big B1.tail A2.rnb B1.tb).rn
  obtain ⟨s1, e5, g5⟩ := md_add g1 g2 M1 M2 (by decide)
  obtain ⟨s2, e6, g6⟩ := md_add g3 g4 M3 M4 (by decide)
  have S1 := (M1.add M2).rn
  have S2 := (M3.add M4).rn
  obtain ⟨s3, e7, g7⟩ := md_sub g5 g6 S1 S2 (by decide)
  have S3 := (S1.sub S2).rn
  obtain ⟨dC, e8, g8⟩ := md_add fn g7 (mT.mono (show 1379 ≤ 1380 by decide)) S3 (by decide)
  refine ⟨zk, bd, m1, m2, m3, m4, s1, s2, s3, dC, k1, d1, e1, e2, e5, e3, e4, e6, e7, e8, d2.1.nn, g8.1.nn, fun hle => ?_⟩
  rw [g8.sgn]
  rw [lit106] at k3
  exact st_c hL hR rfl hT (pz_mul A1.big B2.tail).symm (pz_mul B2.big A1.tail).symm (pz_mul B1.big A2.tail).symm (pz_mul A2.big B1.tail).symm rfl hZ k3 h0 ((FV.le d2 g8.abs).1 hle)
set_option maxRecDepth 100000 in
theorem oTame_any (ax ay bx by' cx cy : Nat) (w : World) (h1 : Fin64 ax) (h2 : Fin64 ay) (h3 : Fin64 bx) (h4 : Fin64 by') (h5 : Fin64 cx) (h6 : Fin64 cy) (t1 : tm ax = true) (t2 : tm ay = true) (t3 : tm bx = true) (t4 : tm by' = true) (t5 : tm cx = true) (t6 : tm cy = true) (hT : Tab w) (hK : Kar w) :
    Calls Tryz.prog 14 #[spv (iw ax) (iw ay), spv (iw bx) (iw by'), spv (iw cx) (iw cy)] w (StR w (sgn (dt ax ay bx by' cx cy))) := by
  have A1 := tp_of h1 h5 t1 t5
  have B1 := tp_of h2 h6 t2 t6
  have A2 := tp_of h3 h5 t3 t5
  have B2 := tp_of h4 h6 t4 t6
  obtain ⟨u1, eu1, fu1⟩ := tp_word h1 h5 t1 t5
  obtain ⟨v1, ev1, fv1⟩ := tp_word h2 h6 t2 t6
  obtain ⟨u2, eu2, fu2⟩ := tp_word h3 h5 t3 t5
  obtain ⟨v2, ev2, fv2⟩ := tp_word h4 h6 t4 t6
  have hT1 := fun W t => Tail_any ax cx u1 _ _ W (FV.mk h1) (FV.mk h5) (fv_mid t1) (fv_mid t5) (hT.still t)
  have hT2 := fun W t => Tail_any ay cy v1 _ _ W (FV.mk h2) (FV.mk h6) (fv_mid t2) (fv_mid t6) (hT.still t)
  have hT3 := fun W t => Tail_any bx cx u2 _ _ W (FV.mk h3) (FV.mk h5) (fv_mid t3) (fv_mid t5) (hT.still t)
  have hT4 := fun W t => Tail_any by' cy v2 _ _ W (FV.mk h4) (FV.mk h6) (fv_mid t4) (fv_mid t6) (hT.still t)
  have hD1 : ∀ W, Turn (fun _ => False) w W → Calls Tryz.prog 33 #[.int .i64 (iw ax), .int .i64 (iw cx)] W (PL W (Ap (fv ax - fv cx))) := fun W t => Apart_any ax cx _ _ W (FV.mk h1) (FV.mk h5) (fv_mid t1) (fv_mid t5) (hT.still t)
  have hD2 : ∀ W, Turn (fun _ => False) w W → Calls Tryz.prog 33 #[.int .i64 (iw by'), .int .i64 (iw cy)] W (PL W (Ap (fv by' - fv cy))) := fun W t => Apart_any by' cy _ _ W (FV.mk h4) (FV.mk h6) (fv_mid t4) (fv_mid t6) (hT.still t)
  have hD3 : ∀ W, Turn (fun _ => False) w W → Calls Tryz.prog 33 #[.int .i64 (iw ay), .int .i64 (iw cy)] W (PL W (Ap (fv ay - fv cy))) := fun W t => Apart_any ay cy _ _ W (FV.mk h2) (FV.mk h6) (fv_mid t2) (fv_mid t6) (hT.still t)
  have hD4 : ∀ W, Turn (fun _ => False) w W → Calls Tryz.prog 33 #[.int .i64 (iw bx), .int .i64 (iw cx)] W (PL W (Ap (fv bx - fv cx))) := fun W t => Apart_any bx cx _ _ W (FV.mk h3) (FV.mk h5) (fv_mid t3) (fv_mid t5) (hT.still t)
  unfold dt
  generalize fv ax - fv cx = a1 at *
  generalize fv ay - fv cy = b1 at *
  generalize fv bx - fv cx = a2 at *
  generalize fv by' - fv cy = b2 at *
  have hV1 := fun w => Value_any ax w h1.1
  have hV2 := fun w => Value_any ay w h2.1
  have hV3 := fun w => Value_any bx w h3.1
  have hV4 := fun w => Value_any by' w h4.1
  have hV5 := fun w => Value_any cx w h5.1
  have hV6 := fun w => Value_any cy w h6.1
  clear h1 h2 h3 h4 h5 h6 t1 t2 t3 t4 t5 t6
  obtain ⟨l, el, fl⟩ := big_mul fu1 fv2 A1.big B2.big A1.rnb B2.rnb
  obtain ⟨r, er, fr⟩ := big_mul fv1 fu2 B1.big A2.big B1.rnb A2.rnb
  have hL := mul_shift A1.big B2.big
  have hR := mul_shift B1.big A2.big
  have mP := big_md A1.big B2.big A1.rnb B2.rnb
  have mQ := big_md B1.big A2.big B1.rnb A2.rnb
  have eP := pz_mul A1.big B2.big
  have eQ := pz_mul B1.big A2.big
  have hne1 := @pz_ne _ _ A1.big B2.big
  have hne2 := @pz_ne _ _ B1.big A2.big
  obtain ⟨d, ed, fd⟩ := md_sub fl fr mP.rn mQ.rn (by decide)
  obtain ⟨s, es, fs⟩ := md_add fl.abs fr.abs mP.rn.abs mQ.rn.abs (by decide)
  have mS := (mP.rn.abs.add mQ.rn.abs).rn
  obtain ⟨ZA, za, za1, za2, za3, -⟩ := md_const (j := 106) cstA fs mS (by decide) (by decide) (by decide)
  obtain ⟨ZB, zb, zb1, zb2, zb3, -⟩ := md_const (j := 106) cstB fs mS (by decide) (by decide) (by decide)
  obtain ⟨ZC, zc, zc1, zc2, zc3, zc4⟩ := md_const (j := 159) cstC fs mS (by decide) (by decide) (by decide)
  rw [lit106] at za3 zb3
  rw [lit159] at zc3
  have mPQ := mP.sub mQ
  generalize pz (rn a1) (rn b2) = P at *
  generalize pz (rn b1) (rn a2) = Q at *
  have bdf := bad_iff fl fr
  have nb0 : ¬ Bad l r → rn P ≠ 0 ∧ rn Q ≠ 0 := fun h => nb_ne fun g => h (bdf.2 g)
  have nd1 : ¬ Bad l r → Dif a1 := fun h => A1.dif fun e => (hne1 (nb0 h).1).1 (rn_zero_iff.2 e)
  have nd2 : ¬ Bad l r → Dif b2 := fun h => B2.dif fun e => (hne1 (nb0 h).1).2 (rn_zero_iff.2 e)
  have nd3 : ¬ Bad l r → Dif b1 := fun h => B1.dif fun e => (hne2 (nb0 h).2).1 (rn_zero_iff.2 e)
  have nd4 : ¬ Bad l r → Dif a2 := fun h => A2.dif fun e => (hne2 (nb0 h).2).2 (rn_zero_iff.2 e)
  have pA : ∀ x : Int, Ap (rn x) = nz (rn x) := fun x => Ap_rep (rep_rn x)
  obtain ⟨M1, hM1⟩ : ∃ M, M = pq (Ap (rn a1)) (Ap (rn b2)) (Ap (rn b2)).length := ⟨_, rfl⟩
  obtain ⟨M2, hM2⟩ : ∃ M, M = pq (Ap (rn b1)) (Ap (rn a2)) (Ap (rn a2)).length := ⟨_, rfl⟩
  obtain ⟨M3, hM3⟩ : ∃ M, M = sq M1 (negL M2) (negL M2).length := ⟨_, rfl⟩
  obtain ⟨K1, hK1⟩ : ∃ M, M = pq (Ap a1) (Ap b2) (Ap b2).length := ⟨_, rfl⟩
  obtain ⟨K2, hK2⟩ : ∃ M, M = pq (Ap b1) (Ap a2) (Ap a2).length := ⟨_, rfl⟩
  obtain ⟨K3, hK3⟩ : ∃ M, M = sq K1 (negL K2) (negL K2).length := ⟨_, rfl⟩
  have tp : ¬ Bad l r → DOk M1 M2 ∧ Exq M3 670 1766 ∧ tot M3 * 2 ^ 1074 = rn a1 * rn b2 - rn b1 * rn a2 ∧ M3.length ≤ 16 := fun h => by
    rw [hM3, hM1, hM2]
    exact two_prods (nd1 h).rn (nd2 h).rn (nd3 h).rn (nd4 h).rn
  have tq : ¬ Bad l r → DOk K1 K2 ∧ Exq K3 670 1766 ∧ tot K3 * 2 ^ 1074 = a1 * b2 - b1 * a2 ∧ K3.length ≤ 16 := fun h => by
    rw [hK3, hK1, hK2]
    exact two_prods (nd1 h) (nd2 h) (nd3 h) (nd4 h)
  have tP : ¬ Bad l r → tot M3 = P - Q := fun h => tot_eq ((tp h).2.2.1.trans (by rw [eP, eQ]))
  refine tame_gen (dd := 0) (g := sgn (a1 * b2 - b1 * a2)) (sg := sgn (tot M3)) (N := rn (tot M3)) (E1 := Ap (rn a1)) (E2 := Ap (rn b2)) (E3 := Ap (rn b1)) (E4 := Ap (rn a2)) (M1 := M1) (M2 := M2) (M3 := M3) (A1 := Ap a1) (A2 := Ap b2) (A3 := Ap b1) (A4 := Ap a2) (K1 := K1) (K2 := K2) (K3 := K3)
    w ⟨hV1, hV2, hV3, hV4, hV5, hV6, eu1, ev1, eu2, ev2, el, er, ed⟩ fl.1.nn fr.1.nn fd.1.nn (fun hb => ?_) es za1 za2.1.nn zb1 zb2.1.nn (fun nb hle => ?_)
    (fun nb W t => ?_) (fun nb W t => ?_) (fun nb W t => ?_) (fun nb W t => ?_)
    (fun nb W a f c d t k1 k2 k3 k4 => ?_) (fun nb W a f c d t k1 k2 k3 k4 => ?_) (fun nb W a f c d t k1 k2 k3 k4 => ?_)
    (fun nb W a c t k1 k2 => pNear_any a c _ W k1 ((tp nb).2.1.vld (by decide) (by decide)) (Nat.le_trans (tp nb).2.2.2 (by decide)) (by rw [tP nb]; exact lt_pw mPQ.bd (by decide)) (hT.still t))
    (fun nb W a c t k1 k2 => ?_)
    (foi_ok _).1 (fun nb near fn hle => ?_) (fun nb W t => hT1 W t) (fun nb W t => hT2 W t) (fun nb W t => hT3 W t) (fun nb W t => hT4 W t) (fun nb z => ?_) zc1
    (fun nb near x1 x2 x3 x4 fn f1 f2 f3 f4 => tails_ok A1 B1 A2 B2 fu1 fv1 fu2 fv2 (by rw [tP nb]; exact mPQ.rn) zc2 (le_pw zc4 (by decide)) hL hR (tp nb).2.2.1 zc3 (nb0 nb).1 near x1 x2 x3 x4 fn f1 f2 f3 f4)
    (fun nb W t => hD1 W t) (fun nb W t => hD2 W t) (fun nb W t => hD3 W t) (fun nb W t => hD4 W t)
    (fun nb W a f c d t k1 k2 k3 k4 => ?_) (fun nb W a f c d t k1 k2 k3 k4 => ?_) (fun nb W a f c d t k1 k2 k3 k4 => ?_)
    (fun nb W a c t k1 k2 => ?_)
  · rw [fd.sgn]
    exact st_0 hL hR (bdf.1 hb)
  · rw [fd.sgn]
    exact st_a hL hR rfl rfl za3 (nb0 nb).1 ((FV.le za2 fd.abs).1 hle)
  · rw [pA]; exact pOf_any u1 _ W fu1
  · rw [pA]; exact pOf_any v2 _ W fv2
  · rw [pA]; exact pOf_any v1 _ W fv1
  · rw [pA]; exact pOf_any u2 _ W fu2
  · rw [hM1]; exact pMul_any a f c d _ _ W k1 k2 k3 k4 ((nd1 nb).rn.pok (nd2 nb).rn) (hT.still t) (hK.still t)
  · rw [hM2]; exact pMul_any a f c d _ _ W k1 k2 k3 k4 ((nd3 nb).rn.pok (nd4 nb).rn) (hT.still t) (hK.still t)
  · rw [hM3]; exact pSub_any a f c d _ _ W k1 k2 k3 k4 (tp nb).1 (hT.still t)
  · have h := pSign_any a c M3 W k1 ((tp nb).2.1.vld (by decide) (by decide)) (Nat.le_trans (tp nb).2.2.2 (by decide))
    rw [(tp nb).2.1.sign] at h
    exact h
  · rw [(foi_ok _).2]
    exact st_b hL hR rfl (tp nb).2.2.1 zb3 (nb0 nb).1 ((FV.le zb2 fn.abs).1 hle)
  · rw [(foi_ok _).2]
    exact st_n (tp nb).2.2.1 z.1 z.2.1 z.2.2.1 z.2.2.2
  · rw [hK1]; exact pMul_any a f c d _ _ W k1 k2 k3 k4 ((nd1 nb).pok (nd2 nb)) (hT.still t) (hK.still t)
  · rw [hK2]; exact pMul_any a f c d _ _ W k1 k2 k3 k4 ((nd3 nb).pok (nd4 nb)) (hT.still t) (hK.still t)
  · rw [hK3]; exact pSub_any a f c d _ _ W k1 k2 k3 k4 (tq nb).1 (hT.still t)
  · have h := pSign_any a c K3 W k1 ((tq nb).2.1.vld (by decide) (by decide)) (Nat.le_trans (tq nb).2.2.2 (by decide))
    rw [(tq nb).2.1.sign, st_d (tq nb).2.2.1] at h
    exact h
end
section
open Go.RowKit
def StP (S : Int → Prop) (w : World) (s : Int) (en : Ending) (w' : World) : Prop := ∃ st, en = .returned (.agg #[.int .i64 s, .int .i64 st]) ∧ S st ∧ Turn (fun _ => False) w w'
def SiR (S : Int → Prop) (w : World) (s : Int) (en : Ending) (w' : World) : Prop := ∃ st, en = .returned (.tuple #[.agg #[.int .i64 s, .int .i64 st], .int .i64 0]) ∧ S st ∧ Turn (fun _ => False) w w'
abbrev six (W : World) (ax ay bx by' cx cy : Int) : World := W.alloc (.cells #[.int .i64 ax, .int .i64 ay, .int .i64 bx, .int .i64 by', .int .i64 cx, .int .i64 cy] 23)
set_option maxRecDepth 100000 in
set_option maxHeartbeats 8000000 in
theorem oSign_gen (S : Int → Prop) (ax ay bx by' cx cy s : Int) (tv : Bool) (w : World)
    (hC : ∀ W, Turn (fun _ => False) w W → Calls Tryz.prog 11 #[.slice (some ⟨W.heap.size, 0, none⟩) 3 3] (six W ax ay bx by' cx cy) fun e w' => e = .returned (.int .i64 0) ∧ Turn (fun _ => False) (six W ax ay bx by' cx cy) w')
    (hT : ∀ W, Turn (fun _ => False) w W → Calls Tryz.prog 12 #[.slice (some ⟨W.heap.size, 0, none⟩) 3 3] (six W ax ay bx by' cx cy) fun e w' => e = .returned (.bool tv) ∧ Turn (fun _ => False) (six W ax ay bx by' cx cy) w')
    (hM : tv = true → ∀ W, Turn (fun _ => False) w W → Calls Tryz.prog 14 #[.agg #[.int .i64 ax, .int .i64 ay], .agg #[.int .i64 bx, .int .i64 by'], .agg #[.int .i64 cx, .int .i64 cy]] W (StP S W s))
    (hW : tv = false → ∀ W, Turn (fun _ => False) w W → Calls Tryz.prog 13 #[.agg #[.int .i64 ax, .int .i64 ay], .agg #[.int .i64 bx, .int .i64 by'], .agg #[.int .i64 cx, .int .i64 cy]] W (StP S W s)) :
    Calls Tryz.prog 7 #[.agg #[.int .i64 ax, .int .i64 ay], .agg #[.int .i64 bx, .int .i64 by'], .agg #[.int .i64 cx, .int .i64 cy]] w (SiR S w s) := by
  have m := TmW.made w ax ay bx by' cx cy
  have d0 := m.p.a.c0
  have d1 := m.p.a.c1
  have d2 := m.p.b.c0
  have d3 := m.p.b.c1
  have d4 := m.p.c.c0
  have d5 := m.p.c.c1
  have c1 := hC _ m.p.turn
  obtain ⟨-, s1⟩ := pt3_ok w ax ay bx by' cx cy
  rw [size_alloc, s1] at c1
  have p2 := Lib.hid (m.still ((Turn.refl (fun _ => False) _).alloc (.cells #[.int .i64 ax, .int .i64 ay, .int .i64 bx, .int .i64 by', .int .i64 cx, .int .i64 cy] 23)))
  clear m s1 hC
  replace hT := Lib.hid hT
  replace hM := Lib.hid hM
  replace hW := Lib.hid hW
  cases tv
  case' true =>
    have hR := hM.out rfl
  case' false =>
    have hR := hW.out rfl
  all_goals
    clear hM hW
    replace hR := Lib.hid hR
    go_enter Tryz.func7, Tryz.ntmps7
    go_wp2_with (first
      | (go_at_call 11; ((with_reducible refine c1.mono ?_)); rintro en w1 ⟨rfl, h⟩
         have q := p2.out.still h
         have e0 := q.p.a.c0
         have e1 := q.p.a.c1
         have e2 := q.p.b.c0
         have e3 := q.p.b.c1
         have e4 := q.p.c.c0
         have e5 := q.p.c.c1
         have c2 := hT.out _ q.p.turn
         have p3 := Lib.hid (q.still ((Turn.refl (fun _ => False) w1).alloc (.cells #[.int .i64 ax, .int .i64 ay, .int .i64 bx, .int .i64 by', .int .i64 cx, .int .i64 cy] 23)))
         clear h q d0 d1 d2 d3 d4 d5 c1)
      | (go_at_call 12; ((with_reducible refine c2.mono ?_)); rintro en w2 ⟨rfl, h⟩
         have q := p3.out.still h
         have d0 := q.p.a.c0
         have d1 := q.p.a.c1
         have d2 := q.p.b.c0
         have d3 := q.p.b.c1
         have d4 := q.p.c.c0
         have d5 := q.p.c.c1
         have c3 := hR.out _ q.p.turn
         have p4 := Lib.hid q
         clear h q e0 e1 e2 e3 e4 e5 c2)
      | (go_at_call 13; ((with_reducible refine c3.mono ?_)); rintro en w3 ⟨st, rfl, hst, h⟩
         have q := p4.out.still h
         have i0 := q.r.c0
         have i1 := q.r.c1
         have i2 := q.r.fz 0
         have i3 := q.r.fz 1
         obtain ⟨⟨j0, j1⟩, hp⟩ := q.r.put s st
         have hfin := Lib.hid (q.p.turn.trans hp fun k hk e => by (have : k = w.heap.size + 1 + 1 + 1 := e; omega))
         replace hst := Lib.hid hst
         clear h q hp)
      | (go_at_call 14; ((with_reducible refine c3.mono ?_)); rintro en w3 ⟨st, rfl, hst, h⟩
         have q := p4.out.still h
         have i0 := q.r.c0
         have i1 := q.r.c1
         have i2 := q.r.fz 0
         have i3 := q.r.fz 1
         obtain ⟨⟨j0, j1⟩, hp⟩ := q.r.put s st
         have hfin := Lib.hid (q.p.turn.trans hp fun k hk e => by (have : k = w.heap.size + 1 + 1 + 1 := e; omega))
         replace hst := Lib.hid hst
         clear h q hp))
    refine bodyPost_ret (v := .tuple #[.agg #[.int .i64 s, .int .i64 st], .int .i64 0]) (by simp [results, Tryz.results7, go_sem, j0, j1]) rfl ?_
    exact ⟨st, rfl, hst.out, hfin.out⟩
end
end Go.Proofs.YtllapbkoildfiaaGreatFmt
