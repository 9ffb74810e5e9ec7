/- The plain law of floats: the third stage of the determinant (heads and tails). -/
import Derived.Test.YtllapbkoildfiaaGreatFmtM01
set_option linter.all false
namespace Go.Proofs.YtllapbkoildfiaaGreatFmt
section
def Bd (c : Nat) (x : Int) (K : Nat) : Prop := c * x.natAbs ≤ K
theorem Bd.rnd {c c' : Nat} {x : Int} {K : Nat} (h : Bd c x K) (hc : c' = 9007199254740992 * c) : Bd c' (rn x - x) K := by
  subst hc
  unfold Bd at *
  have := Nat.mul_le_mul_left c (rn_rel x).1
  rw [Nat.mul_assoc, Nat.mul_left_comm]
  omega
theorem Bd.add {c : Nat} {x y : Int} {K L : Nat} (h : Bd c x K) (g : Bd c y L) : Bd c (x + y) (K + L) := by
  unfold Bd at *
  have : (x + y).natAbs ≤ x.natAbs + y.natAbs := by omega
  have := Nat.mul_le_mul_left c this
  rw [Nat.mul_add] at this
  omega
theorem Bd.neg {c : Nat} {x : Int} {K : Nat} (h : Bd c x K) : Bd c (-x) K := by unfold Bd at *; rw [Int.natAbs_neg]; exact h
theorem Bd.sub {c : Nat} {x y : Int} {K L : Nat} (h : Bd c x K) (g : Bd c y L) : Bd c (x - y) (K + L) := by
  rw [Int.sub_eq_add_neg]; exact h.add g.neg
theorem Bd.up {c c' k : Nat} {x : Int} {K K' : Nat} (h : Bd c x K) (hc : c' = k * c) (hK : K' = k * K) : Bd c' x K' := by
  subst hc; subst hK
  unfold Bd at *
  rw [Nat.mul_assoc]
  exact Nat.mul_le_mul_left k h
theorem Bd.rn {c c' : Nat} {x : Int} {K K' : Nat} (h : Bd c x K) (hc : c' = 9007199254740992 * c) (hK : K' = 9007199254740993 * K) : Bd c' (rn x) K' := by
  have h1 := (h.up (k := 9007199254740992) hc rfl).add (h.rnd hc)
  rw [show x + (Go.Proofs.YtllapbkoildfiaaGreatFmt.rn x - x) = Go.Proofs.YtllapbkoildfiaaGreatFmt.rn x by omega] at h1
  rw [hK]
  refine Nat.le_trans h1 ?_
  clear h1 h hK
  omega
theorem half_tails {x1 x2 x5 : Int} {M : Nat} (h1 : Bd 9007199254740992 x1 M) (h2 : Bd 9007199254740992 x2 M) (h5 : Bd 81129638414606681695789005144064 x5 M) :
    Bd 730750818665451459101842416358141509827966271488 (rn (rn x1 + rn x2) - (x1 + x2 + x5)) (45035996273704962 * M) ∧ Bd 730750818665451459101842416358141509827966271488 (rn (rn x1 + rn x2)) (162259276829213399420375029252098 * M) := by
  have w := (h1.rn (c' := 81129638414606681695789005144064) (K' := 9007199254740993 * M) (by decide) rfl).add (h2.rn (c' := 81129638414606681695789005144064) (K' := 9007199254740993 * M) (by decide) rfl)
  have e := ((h1.rnd (c' := 81129638414606681695789005144064) (by decide)).add (h2.rnd (c' := 81129638414606681695789005144064) (by decide))).sub h5
  have ey := (w.rnd (c' := 730750818665451459101842416358141509827966271488) (by decide)).add (e.up (k := 9007199254740992) (c' := 730750818665451459101842416358141509827966271488) (by decide) rfl)
  refine ⟨?_, ?_⟩
  · rw [show rn (rn x1 + rn x2) - (rn x1 + rn x2) + (rn x1 - x1 + (rn x2 - x2) - x5) = rn (rn x1 + rn x2) - (x1 + x2 + x5) by omega] at ey
    refine Nat.le_trans ey ?_
    clear ey e w h1 h2 h5
    omega
  · refine Nat.le_trans (w.rn (c' := 730750818665451459101842416358141509827966271488) (by decide) rfl) ?_
    clear ey e w h1 h2 h5
    omega
theorem all_tails {x1 x2 x3 x4 x5 x6 : Int} {M N : Nat} (h1 : Bd 9007199254740992 x1 M) (h2 : Bd 9007199254740992 x2 M) (h5 : Bd 81129638414606681695789005144064 x5 M) (h3 : Bd 9007199254740992 x3 N) (h4 : Bd 9007199254740992 x4 N) (h6 : Bd 81129638414606681695789005144064 x6 N) :
    Bd 6582018229284824168619876730229402019930943462534319453394436096 (rn (rn (rn x1 + rn x2) - rn (rn x3 + rn x4)) - (x1 + x2 + x5 - (x3 + x4 + x6))) (567907468902246825913718564454402 * (M + N)) := by
  obtain ⟨a1, a2⟩ := half_tails h1 h2 h5
  obtain ⟨b1, b2⟩ := half_tails h3 h4 h6
  have c := ((a2.sub b2).rnd (c' := 6582018229284824168619876730229402019930943462534319453394436096) (by decide)).add ((a1.sub b1).up (k := 9007199254740992) (c' := 6582018229284824168619876730229402019930943462534319453394436096) (by decide) rfl)
  generalize rn (rn x1 + rn x2) = y1 at *
  generalize rn (rn x3 + rn x4) = y2 at *
  rw [show rn (y1 - y2) - (y1 - y2) + (y1 - (x1 + x2 + x5) - (y2 - (x3 + x4 + x6))) = rn (y1 - y2) - (x1 + x2 + x5 - (x3 + x4 + x6)) by omega] at c
  refine Nat.le_trans c ?_
  clear c a1 a2 b1 b2 h1 h2 h3 h4 h5 h6
  omega
theorem c_1 {M S s : Int} (h1 : 9007199254740992 * M ≤ 9007199254740993 * S) (h2 : 9007199254740992 * S ≤ 9007199254740993 * s) : 81129638414606681695789005144064 * M ≤ 81129638414606699710187514626049 * s := by omega
theorem c_2 {D T T1 T2 z1 z2 : Int} (h1 : T ≤ D) (h2 : 9007199254740992 * (T1 + T2 - T) ≤ T1 + T2) (h3 : 9007199254740992 * (z1 - T1) ≤ z1) (h4 : 9007199254740992 * (z2 - T2) ≤ z2) : 81129638414606663681390495662081 * (z1 + z2) ≤ 81129638414606681695789005144064 * D := by
  have a : 9007199254740991 * (T1 + T2) ≤ 9007199254740992 * D := by clear h3 h4; omega
  have b : 9007199254740991 * (z1 + z2) ≤ 9007199254740992 * (T1 + T2) := by clear h1 h2 a; omega
  clear h1 h2 h3 h4
  omega
theorem c_3 {D z1 z2 s N : Int} (h1 : 81129638414606663681390495662081 * (z1 + z2) ≤ 81129638414606681695789005144064 * D) (h2 : 730750818665451459101842416358141509827966271488 * z1 = 81064793292668992 * s) (h3 : 81129638414606681695789005144064 * z2 = 27021597764222984 * N) : 6576757367989066863879948819129559738034618892352 * s + 19746054687854473967361267521590069578178273217095990353086906368 * N ≤ 59285549689505892056868344324448208820874232148807968788202283012051522375647232 * D := by
  have a := Int.mul_le_mul_of_nonneg_left h1 (show (0 : Int) ≤ 730750818665451459101842416358141509827966271488 by decide)
  rw [Int.mul_left_comm, Int.mul_add, h2, show (730750818665451459101842416358141509827966271488 : Int) = 9007199254740992 * 81129638414606681695789005144064 by decide, Int.mul_assoc 9007199254740992 81129638414606681695789005144064 z2, h3] at a
  clear h1 h2 h3
  omega
theorem c_4 {D v N M s e : Int} (h1 : 9007199254740992 * (D - v) ≤ D) (h2 : 59285549689505892056868344324448208820874232148807968788202283012051522375647232 * (v - e) ≤ 6582018229284824168619876730229402019930943462534319453394436096 * N + 5115255730658160700490727402147098757928304246784 * M) (h3 : 81129638414606681695789005144064 * M ≤ 81129638414606699710187514626049 * s) (h4 : 6576757367989066863879948819129559738034618892352 * s + 19746054687854473967361267521590069578178273217095990353086906368 * N ≤ 59285549689505892056868344324448208820874232148807968788202283012051522375647232 * D) (h5 : 0 < s) (h6 : 0 ≤ N) : 0 < e := by
  have a : 4809815209520810450717656262224562232065397860164239095208531909697964083434718092213655548692006303809402830848 * (v - e) ≤ 533996758980227520598755426542388028650676130589163192486760401955554931445160137505740521734144 * N + 414998847826541376038442995967636179910846204111148615211174819577428400370876416 * s := by clear h1 h4 h5 h6; omega
  have b : 4809815209520810450717656262224562232065397860164239095208531909697964083434718092213655548692006303809402830848 * (D - e) ≤ 533996758980227520598755426542388028650676130589163192486760401955554931445160137505740521734144 * D + 533996758980227520598755426542388028650676130589163192486760401955554931445160137505740521734144 * N + 414998847826541376038442995967636179910846204111148615211174819577428400370876416 * s := by clear h2 h3 h4 h5 h6; omega
  clear a h1 h2 h3
  omega
theorem rel_pos {z : Int} (h : 0 ≤ z) : 9007199254740992 * (z - rn z) ≤ z := by
  have := (rel_lin z).2.2.2.1
  rw [Int.natAbs_of_nonneg h] at this
  exact this
theorem tailh (u v b : Int) (h : 9007199254740992 * (v - b).natAbs ≤ v.natAbs) : Bd 9007199254740992 (u * (b - v)) (u * v).natAbs := by
  unfold Bd
  rw [Int.natAbs_mul, Int.natAbs_mul, Nat.mul_left_comm, show (b - v).natAbs = (v - b).natAbs by clear h; omega]
  exact Nat.mul_le_mul_left _ h
theorem tailsh (u v a b : Int) (h1 : 9007199254740992 * (u - a).natAbs ≤ u.natAbs) (h2 : 9007199254740992 * (v - b).natAbs ≤ v.natAbs) : Bd 81129638414606681695789005144064 ((a - u) * (b - v)) (u * v).natAbs := by
  unfold Bd
  rw [Int.natAbs_mul, Int.natAbs_mul]
  have := Nat.mul_le_mul h1 h2
  rw [Nat.mul_assoc, Nat.mul_left_comm (u - a).natAbs, ← Nat.mul_assoc, show (9007199254740992 * 9007199254740992 : Nat) = 81129638414606681695789005144064 from by decide] at this
  have e1 : (a - u).natAbs = (u - a).natAbs := by clear h1 h2 this; omega
  have e2 : (b - v).natAbs = (v - b).natAbs := by clear h1 h2 this; omega
  rw [e1, e2]
  exact this
theorem stage_c {a1 b1 a2 b2 s z1 z2 near w d : Int} (hs : s = rn (((rn (rn a1 * rn b2)).natAbs : Int) + ((rn (rn b1 * rn a2)).natAbs : Int)))
    (hn : near = rn (rn a1 * rn b2 - rn b1 * rn a2))
    (hw : w = rn (rn (rn (rn a1 * (b2 - rn b2)) + rn (rn b2 * (a1 - rn a1))) - rn (rn (rn b1 * (a2 - rn a2)) + rn (rn a2 * (b1 - rn b1)))))
    (hd : d = rn (near + w))
    (hz1 : 730750818665451459101842416358141509827966271488 * z1 = 81064793292668992 * s) (hz2 : 81129638414606681695789005144064 * z2 = 27021597764222984 * (near.natAbs : Int))
    (hl : rn (rn a1 * rn b2) ≠ 0) (hb : rn (rn z1 + rn z2) ≤ (d.natAbs : Int)) :
    (0 < d → 0 < a1 * b2 - b1 * a2) ∧ (d < 0 → a1 * b2 - b1 * a2 < 0) ∧ d ≠ 0 := by
  have k1 := (rn_rel a1).2
  have k2 := (rn_rel b2).2
  have k3 := (rn_rel b1).2
  have k4 := (rn_rel a2).2
  have t1 := tailh (rn a1) _ _ k2
  have t2 := tailh (rn b2) _ _ k1
  have t3 := tailh (rn b1) _ _ k4
  have t4 := tailh (rn a2) _ _ k3
  rw [Int.mul_comm (rn b2) (rn a1)] at t2
  rw [Int.mul_comm (rn a2) (rn b1)] at t4
  have key := all_tails t1 t2 (tailsh _ _ _ _ k1 k2) t3 t4 (tailsh _ _ _ _ k3 k4)
  rw [← hw] at key
  clear t1 t2 t3 t4 k1 k2 k3 k4
  have e1 : a1 * b2 = rn a1 * rn b2 + (rn a1 * (b2 - rn b2) + rn b2 * (a1 - rn a1) + (a1 - rn a1) * (b2 - rn b2)) := by
    clear key hs hn hw hd hz1 hz2 hl hb
    simp only [Int.mul_sub, Int.sub_mul, Int.mul_comm (rn b2)]; omega
  have e2 : b1 * a2 = rn b1 * rn a2 + (rn b1 * (a2 - rn a2) + rn a2 * (b1 - rn b1) + (b1 - rn b1) * (a2 - rn a2)) := by
    clear key hs hn hw hd hz1 hz2 hl hb e1
    simp only [Int.mul_sub, Int.sub_mul, Int.mul_comm (rn a2)]; omega
  have q1 := (rel_lin (rn a1 * rn b2)).2.2.2.2.1
  have q2 := (rel_lin (rn b1 * rn a2)).2.2.2.2.1
  obtain ⟨s0, s1⟩ := sum_pos hs hl
  rw [e1, e2]
  clear e1 e2 hw hs
  generalize rn a1 * rn b2 = m1 at *
  generalize rn b1 * rn a2 = m2 at *
  generalize rn a1 * (b2 - rn b2) + rn b2 * (a1 - rn a1) + (a1 - rn a1) * (b2 - rn b2) = x1 at *
  generalize rn b1 * (a2 - rn a2) + rn a2 * (b1 - rn b1) + (b1 - rn b1) * (a2 - rn a2) = x2 at *
  have g1 : 9007199254740992 * ((m1.natAbs : Int) + (m2.natAbs : Int)) ≤ 9007199254740993 * (((rn m1).natAbs : Int) + ((rn m2).natAbs : Int)) := by
    rw [Int.mul_add, Int.mul_add]; exact Int.add_le_add q1 q2
  have g2 := c_1 g1 s1
  clear g1 s1 q1 q2
  have r9 := rel_lin (m1 - m2)
  rw [← hn] at r9
  have r8 := rel_lin (near + w)
  rw [← hd] at r8
  have N0 : (0 : Int) ≤ (near.natAbs : Int) := Int.natCast_nonneg _
  have z10 : 0 < z1 := pos_mul (by decide) (by decide) hz1 s0
  have z20 : 0 ≤ z2 := by
    rcases Int.lt_or_le z2 0 with g | g
    · exfalso
      have a : (81129638414606681695789005144064 : Int) * z2 < 0 := Int.mul_neg_of_pos_of_neg (by decide) g
      have b : (0 : Int) ≤ 27021597764222984 * (near.natAbs : Int) := Int.mul_nonneg (by decide) N0
      rw [hz2] at a
      exact absurd b (Int.not_le.2 a)
    · exact g
  have T1 := rn_sign_pos z10
  have T2 := rn_nonneg z20
  have T3 : 0 < rn (rn z1 + rn z2) := rn_sign_pos (Int.add_pos_of_pos_of_nonneg T1 T2)
  have l1 := c_2 hb (rel_pos (z := rn z1 + rn z2) (Int.le_of_lt (Int.add_pos_of_pos_of_nonneg T1 T2))) (rel_pos (Int.le_of_lt z10)) (rel_pos z20)
  have l2 := c_3 l1 hz1 hz2
  have d0 : 0 < (d.natAbs : Int) := Int.lt_of_lt_of_le T3 hb
  obtain ⟨k1, k2⟩ := abs_lin (c := 6582018229284824168619876730229402019930943462534319453394436096) key
  clear key l1 hz1 hz2 T1 T2 T3 z10 z20 hb hl hn hd
  have f1 := r9.1
  have f2 := r9.2.1
  have f3 := r8.1
  have f4 := r8.2.1
  clear r8 r9
  have kk1 : 59285549689505892056868344324448208820874232148807968788202283012051522375647232 * ((near + w) - (m1 + x1 - (m2 + x2))) ≤ 6582018229284824168619876730229402019930943462534319453394436096 * (near.natAbs : Int) + 5115255730658160700490727402147098757928304246784 * ((m1.natAbs : Int) + (m2.natAbs : Int)) := by
    clear f2 f3 f4 k2 l2 g2 s0 d0 N0
    rw [Int.natCast_mul, Int.natCast_add] at k1
    generalize ((m1.natAbs : Int) + (m2.natAbs : Int)) = M at *
    generalize (near.natAbs : Int) = N at *
    omega
  have kk2 : 59285549689505892056868344324448208820874232148807968788202283012051522375647232 * ((m1 + x1 - (m2 + x2)) - (near + w)) ≤ 6582018229284824168619876730229402019930943462534319453394436096 * (near.natAbs : Int) + 5115255730658160700490727402147098757928304246784 * ((m1.natAbs : Int) + (m2.natAbs : Int)) := by
    clear f1 f3 f4 k1 l2 g2 s0 d0 N0 kk1
    rw [Int.natCast_mul, Int.natCast_add] at k2
    generalize ((m1.natAbs : Int) + (m2.natAbs : Int)) = M at *
    generalize (near.natAbs : Int) = N at *
    omega
  clear k1 k2 f1 f2
  refine ⟨fun h => ?_, fun h => ?_, fun h => by subst h; exact absurd d0 (by decide)⟩
  · rw [Int.natAbs_of_nonneg (Int.le_of_lt h)] at f3 l2
    exact c_4 f3 kk1 g2 l2 s0 N0
  · have ed : (d.natAbs : Int) = -d := by clear kk1 kk2 g2 l2 f3 f4; omega
    rw [ed] at f4 l2
    have := c_4 (D := -d) (v := -(near + w)) (e := -(m1 + x1 - (m2 + x2))) (by clear kk1 kk2 g2 l2 f3; omega) (by rw [show -(near + w) - -(m1 + x1 - (m2 + x2)) = (m1 + x1 - (m2 + x2)) - (near + w) by clear kk1 kk2 g2 l2 f3 f4; omega]; exact kk2) g2 l2 s0 N0
    clear kk1 kk2 g2 l2 f3 f4
    omega
end
end Go.Proofs.YtllapbkoildfiaaGreatFmt
