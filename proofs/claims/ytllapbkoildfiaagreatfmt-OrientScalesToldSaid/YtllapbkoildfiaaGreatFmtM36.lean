/- The plain law of expansions: products of two differences · The plain law of the tame determinant: each stage tells its sign · orient.Apart. -/
import Derived.Test.YtllapbkoildfiaaGreatFmtM35
import Derived.Test.YtllapbkoildfiaaGreatFmtM02
set_option linter.all false
set_option exponentiation.threshold 100000
namespace Go.Proofs.YtllapbkoildfiaaGreatFmt
section
theorem Rep.shift {z : Int} (h : Rep z) (n : Nat) : Rep (z * 2 ^ n) := by
  obtain ⟨m, k, h1, h2⟩ := h
  refine ⟨m, k + n, ?_, h2⟩
  rw [abs_pow, h1, Nat.pow_add, Nat.mul_assoc]
theorem pz_rep {a b : Int} (ha : Big a) (hb : Big b) : Rep (pz a b - rn (pz a b)) := by
  obtain ⟨X, i, h1, i1, i2⟩ := big_nm ha
  obtain ⟨Y, j, h2, j1, j2⟩ := big_nm hb
  obtain ⟨n, hn⟩ : ∃ n, i + j = n + 1074 := ⟨i + j - 1074, by omega⟩
  have e : pz a b = X * Y * 2 ^ n := by
    unfold pz
    rw [h1.1, h2.1]
    have : X * 2 ^ i * (Y * 2 ^ j) = X * Y * 2 ^ n * 2 ^ 1074 := by
      rw [Int.mul_assoc (X * Y), ← Int.pow_add, ← hn, Int.pow_add]
      generalize (2 : Int) ^ i = u
      generalize (2 : Int) ^ j = v
      ac_rfl
    rw [this]
    exact Int.mul_ediv_cancel _ (Int.ne_of_gt (pow_pos2 1074))
  rw [e, rn_shift, ← Int.sub_mul]
  refine Rep.shift ?_ n
  rw [← two_prod_all h1.2 h2.2]
  exact rep_rn _
theorem pz_dvd {a b : Int} (ha : Big a) (hb : Big b) : (2 : Int) ^ 670 ∣ pz a b := by
  have h1 : (2 : Int) ^ (872 + 872) ∣ a * b := by rw [Int.pow_add]; exact Int.mul_dvd_mul ha.dvd hb.dvd
  obtain ⟨t, ht⟩ := h1
  rw [pz_mul ha hb, show 872 + 872 = 670 + 1074 from rfl, Int.pow_add] at ht
  refine ⟨t, Int.eq_of_mul_eq_mul_right (Int.ne_of_gt (pow_pos2 1074)) ?_⟩
  rw [ht]
  generalize (2 : Int) ^ 670 = u
  generalize (2 : Int) ^ 1074 = v
  ac_rfl
theorem pz_bd {a b : Int} (ha : Big a) (hb : Big b) (h1 : a.natAbs ≤ 2 ^ 1226) (h2 : b.natAbs ≤ 2 ^ 1226) : (pz a b).natAbs ≤ 2 ^ 1378 := by
  have h := Nat.mul_le_mul h1 h2
  rw [← Int.natAbs_mul, pz_mul ha hb, abs_pow, ← Nat.pow_add, show 1226 + 1226 = 1378 + 1074 from rfl, Nat.pow_add] at h
  exact Nat.le_of_mul_le_mul_right h (Nat.two_pow_pos _)
theorem rn_err0 (z : Int) : (z - rn z).natAbs ≤ z.natAbs := by
  have := rn_near (z := z) (y := 0) Rep.zero
  omega
structure Sst (E : List Int) (b : Int) (m k : Nat) : Prop where
  fl : Fls (sc E b k).2 670 (m + 2 * k)
  nz : ∀ x, x ∈ (sc E b k).2 → x ≠ 0
  rq : Rep (sc E b k).1
  dq : (2 : Int) ^ 670 ∣ (sc E b k).1
  bq : (sc E b k).1.natAbs ≤ 2 ^ (m + 2 * k)
  tot : tot (sc E b k).2 + (sc E b k).1 = psum (fun j => pz (E.getD j 0) b) (k + 1)
theorem pow4 (n : Nat) : 2 ^ (n + 2) = 2 ^ n * 4 := by rw [Nat.pow_add]
theorem Sst.all {E : List Int} {b : Int} {m : Nat} (hE : ∀ i, i < E.length → Big (E.getD i 0)) (hb : Big b) (hm : ∀ i, i < E.length → (pz (E.getD i 0) b).natAbs ≤ 2 ^ m) : ∀ k, k < E.length → Sst E b m k
  | 0, h0 => by
    have hr := pz_rep (hE 0 h0) hb
    have hd := pz_dvd (hE 0 h0) hb
    have hbd := hm 0 h0
    have he := rn_err0 (pz (E.getD 0 0) b)
    have e1 : (sc E b 0).1 = rn (pz (E.getD 0 0) b) := rfl
    have e2 : (sc E b 0).2 = YtllapbkoildfiaaGreatFmt.nz (pz (E.getD 0 0) b - rn (pz (E.getD 0 0) b)) := rfl
    have e3 : psum (fun j => pz (E.getD j 0) b) (0 + 1) = 0 + pz (E.getD 0 0) b := rfl
    generalize pz (E.getD 0 0) b = p at *
    refine ⟨⟨fun x hx => ?_, fun x hx => ?_, fun x hx => ?_⟩, fun x hx => ?_, by rw [e1]; exact rep_rn _, by rw [e1]; exact rn_dvd hd, by rw [e1]; exact rn_le2 hbd, by rw [e1, e2, e3, tot_nz]; omega⟩
    · rw [e2] at hx; rw [(mem_nz hx).1]; exact hr
    · rw [e2] at hx; rw [(mem_nz hx).1]; exact Int.dvd_sub hd (rn_dvd hd)
    · rw [e2] at hx; rw [(mem_nz hx).1]; exact Nat.le_trans he hbd
    · rw [e2] at hx; have := mem_nz hx; rw [this.1]; exact this.2
  | k + 1, h1 => by
    obtain ⟨fl, nz', rq, dq, bq, ht⟩ := Sst.all hE hb hm k (by omega)
    have hr := pz_rep (hE (k + 1) h1) hb
    have hd := pz_dvd (hE (k + 1) h1) hb
    have hbd := hm (k + 1) h1
    have he := rn_err0 (pz (E.getD (k + 1) 0) b)
    have e3 : psum (fun j => pz (E.getD j 0) b) (k + 1 + 1) = psum (fun j => pz (E.getD j 0) b) (k + 1) + pz (E.getD (k + 1) 0) b := rfl
    obtain ⟨q, hq⟩ : ∃ q, q = (sc E b k).1 := ⟨_, rfl⟩
    obtain ⟨p, hp⟩ : ∃ p, p = pz (E.getD (k + 1) 0) b := ⟨_, rfl⟩
    obtain ⟨s, hs⟩ : ∃ s, s = q + (p - rn p) := ⟨_, rfl⟩
    obtain ⟨f, hf⟩ : ∃ f, f = rn p + rn s := ⟨_, rfl⟩
    have e1 : (sc E b (k + 1)).1 = rn f := by rw [hf, hs, hp, hq]; rfl
    have e2 : (sc E b (k + 1)).2 = (sc E b k).2 ++ YtllapbkoildfiaaGreatFmt.nz (s - rn s) ++ YtllapbkoildfiaaGreatFmt.nz (f - rn f) := by rw [hf, hs, hp, hq]; rfl
    rw [← hp] at hr hd hbd he e3
    rw [← hq] at rq dq bq ht
    have ds : (2 : Int) ^ 670 ∣ s := by rw [hs]; exact Int.dvd_add dq (Int.dvd_sub hd (rn_dvd hd))
    have df : (2 : Int) ^ 670 ∣ f := by rw [hf]; exact Int.dvd_add (rn_dvd hd) (rn_dvd ds)
    have rs : Rep (s - rn s) := by rw [hs]; exact rep_err rq hr
    have rf : Rep (f - rn f) := by rw [hf]; exact rep_err (rep_rn _) (rep_rn _)
    have p2 : 2 ^ m ≤ 2 ^ (m + 2 * k) := Nat.pow_le_pow_right (by omega) (by omega)
    have p4 : 2 ^ (m + 2 * (k + 1)) = 2 ^ (m + 2 * k) * 4 := pow4 (m + 2 * k)
    have p3 : 2 ^ (m + 2 * k + 1) = 2 ^ (m + 2 * k) * 2 := Nat.pow_succ ..
    have bs : s.natAbs ≤ 2 ^ (m + 2 * k + 1) := by omega
    have bs2 := rn_le2 bs
    have bp2 := rn_le2 hbd
    have bf : f.natAbs ≤ 2 ^ (m + 2 * (k + 1)) := by omega
    have es := rn_err0 s
    have ef := rn_err0 f
    have cases : ∀ x, x ∈ (sc E b (k + 1)).2 → x ∈ (sc E b k).2 ∨ (x = s - rn s ∧ x ≠ 0) ∨ (x = f - rn f ∧ x ≠ 0) := fun x hx => by
      rw [e2] at hx
      rcases List.mem_append.1 hx with g | g
      · rcases List.mem_append.1 g with g | g
        · exact .inl g
        · obtain ⟨g1, g2⟩ := mem_nz g; exact .inr (.inl ⟨g1, g1 ▸ g2⟩)
      · obtain ⟨g1, g2⟩ := mem_nz g; exact .inr (.inr ⟨g1, g1 ▸ g2⟩)
    refine ⟨⟨fun x hx => ?_, fun x hx => ?_, fun x hx => ?_⟩, fun x hx => ?_, by rw [e1]; exact rep_rn _, by rw [e1]; exact rn_dvd df, by rw [e1]; exact rn_le2 bf, ?_⟩
    · rcases cases x hx with g | ⟨g, -⟩ | ⟨g, -⟩
      · exact fl.rep x g
      · rw [g]; exact rs
      · rw [g]; exact rf
    · rcases cases x hx with g | ⟨g, -⟩ | ⟨g, -⟩
      · exact fl.dv x g
      · rw [g]; exact Int.dvd_sub ds (rn_dvd ds)
      · rw [g]; exact Int.dvd_sub df (rn_dvd df)
    · rcases cases x hx with g | ⟨g, -⟩ | ⟨g, -⟩
      · have := fl.bd x g; omega
      · rw [g]; omega
      · rw [g]; omega
    · rcases cases x hx with g | ⟨-, g⟩ | ⟨-, g⟩
      · exact nz' x g
      · exact g
      · exact g
    · rw [e1, e2, e3, tot_append, tot_append, tot_nz, tot_nz]
      omega
theorem scaleL_all {E : List Int} {b : Int} {m : Nat} (h0 : E ≠ []) (hE : ∀ i, i < E.length → Big (E.getD i 0)) (hb : Big b) (hm : ∀ i, i < E.length → (pz (E.getD i 0) b).natAbs ≤ 2 ^ m) :
    Fls (scaleL E b) 670 (m + 2 * E.length) ∧ tot (scaleL E b) = psum (fun j => pz (E.getD j 0) b) E.length ∧ (scaleL E b).length ≤ 2 * E.length := by
  have hp : 0 < E.length := List.length_pos_iff.2 h0
  have h := Sst.all hE hb hm (E.length - 1) (by omega)
  have hl := sc_len E b (E.length - 1)
  have hn := nz_len (sc E b (E.length - 1)).1
  have ht := h.tot
  rw [show E.length - 1 + 1 = E.length by omega] at ht
  have cases : ∀ x, x ∈ scaleL E b → x ∈ (sc E b (E.length - 1)).2 ∨ x = (sc E b (E.length - 1)).1 := fun x hx => by
    rcases List.mem_append.1 hx with g | g
    · exact .inl g
    · exact .inr (mem_nz g).1
  have pm : 2 ^ (m + 2 * (E.length - 1)) ≤ 2 ^ (m + 2 * E.length) := Nat.pow_le_pow_right (by omega) (by omega)
  refine ⟨⟨fun x hx => ?_, fun x hx => ?_, fun x hx => ?_⟩, by unfold scaleL; rw [tot_append, tot_nz]; exact ht, by unfold scaleL; rw [List.length_append]; omega⟩
  · rcases cases x hx with g | rfl
    · exact h.fl.rep x g
    · exact h.rq
  · rcases cases x hx with g | rfl
    · exact h.fl.dv x g
    · exact h.dq
  · rcases cases x hx with g | rfl
    · exact Nat.le_trans (h.fl.bd x g) pm
    · exact Nat.le_trans h.bq pm
def Ap (d : Int) : List Int := nz (d - rn d) ++ nz (rn d)
structure Dif (d : Int) : Prop where
  ne : d ≠ 0
  dv : (2 : Int) ^ 872 ∣ d
  bd : d.natAbs ≤ 2 ^ 1226
  rep : Rep (d - rn d)
theorem rn_ne {z : Int} (h : z ≠ 0) : rn z ≠ 0 := by
  rcases Int.lt_or_gt_of_ne h with g | g
  · have := rn_sign_neg g; omega
  · have := rn_sign_pos g; omega
theorem Dif.rn {d : Int} (h : Dif d) : Dif (rn d) :=
  ⟨rn_ne h.ne, rn_dvd h.dv, rn_le2 h.bd, by rw [rn_rep (rep_rn d), Int.sub_self]; exact Rep.zero⟩
theorem Ap_rep {d : Int} (h : Rep d) : Ap d = nz d := by unfold Ap; rw [rn_rep h, Int.sub_self]; rfl
theorem Dif.two {d : Int} (h : Dif d) : (d - YtllapbkoildfiaaGreatFmt.rn d = 0 ∧ Ap d = [d]) ∨ (d - YtllapbkoildfiaaGreatFmt.rn d ≠ 0 ∧ Ap d = [d - YtllapbkoildfiaaGreatFmt.rn d, YtllapbkoildfiaaGreatFmt.rn d]) := by
  by_cases g : d - YtllapbkoildfiaaGreatFmt.rn d = 0
  · refine .inl ⟨g, ?_⟩
    have e : YtllapbkoildfiaaGreatFmt.rn d = d := by omega
    unfold Ap
    rw [g, e, nz_zero, nz_some h.ne]; rfl
  · refine .inr ⟨g, ?_⟩
    unfold Ap
    rw [nz_some g, nz_some (rn_ne h.ne)]; rfl
theorem big_of {x : Int} (h1 : Rep x) (h2 : (2 : Int) ^ 872 ∣ x) (h3 : x.natAbs ≤ 2 ^ 1226) : Big x := ⟨h1, h2, Nat.lt_of_le_of_lt h3 (Nat.pow_lt_pow_right (by omega) (by omega))⟩
theorem Dif.mem {d x : Int} (h : Dif d) (hx : x ∈ Ap d) : Big x ∧ x.natAbs ≤ 2 ^ 1226 ∧ x ≠ 0 := by
  unfold Ap at hx
  rcases List.mem_append.1 hx with g | g
  · obtain ⟨rfl, g2⟩ := mem_nz g
    have hb := Nat.le_trans (rn_err0 d) h.bd
    exact ⟨big_of h.rep (Int.dvd_sub h.dv (rn_dvd h.dv)) hb, hb, g2⟩
  · obtain ⟨rfl, g2⟩ := mem_nz g
    exact ⟨big_of (rep_rn d) (rn_dvd h.dv) (rn_le2 h.bd), rn_le2 h.bd, g2⟩
theorem Ap_len (d : Int) : (Ap d).length ≤ 2 := by
  have a := nz_len (d - rn d)
  have b := nz_len (rn d)
  unfold Ap; rw [List.length_append]; omega
theorem Ap_tot (d : Int) : tot (Ap d) = d := by unfold Ap; rw [tot_append, tot_nz, tot_nz]; omega
theorem Dif.exq {d : Int} (h : Dif d) : Exq (Ap d) 872 1226 := by
  refine ⟨?_, fun x hx => (h.mem hx).2.2, fun x hx => (h.mem hx).1.dvd, fun x hx => (h.mem hx).2.1, fun x hx => (h.mem hx).1.rep⟩
  rcases h.two with ⟨-, g⟩ | ⟨-, g⟩
  · rw [g]
    exact ⟨⟨d.natAbs, Nat.lt_two_pow_self, fun y hy => (List.not_mem_nil hy).elim, fun y hy => (List.not_mem_nil hy).elim⟩, trivial⟩
  · rw [g]
    obtain ⟨k, h1, h2⟩ := err_low d
    exact ⟨⟨k, h1, fun y hy => by rw [List.mem_singleton.1 hy]; exact h2, fun y hy => (List.not_mem_nil hy).elim⟩, ⟨(YtllapbkoildfiaaGreatFmt.rn d).natAbs, Nat.lt_two_pow_self, fun y hy => (List.not_mem_nil hy).elim, fun y hy => (List.not_mem_nil hy).elim⟩, trivial⟩
theorem Dif.nil {d : Int} (h : Dif d) : Ap d ≠ [] := by
  rcases h.two with ⟨-, g⟩ | ⟨-, g⟩ <;> rw [g] <;> simp
theorem fast_ok {d b : Int} (h : Dif d) (hb : Big b) (_g : d - rn d ≠ 0) :
    (rn (rn (pz (d - rn d) b) + (pz (rn d) b - rn (pz (rn d) b)))).natAbs ≤ (rn (pz (rn d) b)).natAbs := by
  have b1 : Big (d - rn d) := big_of h.rep (Int.dvd_sub h.dv (rn_dvd h.dv)) (Nat.le_trans (rn_err0 d) h.bd)
  have b2 : Big (rn d) := big_of (rep_rn d) (rn_dvd h.dv) (rn_le2 h.bd)
  have hr := (rn_rel d).2
  have m1 := pz_mul b1 hb
  have m2 := pz_mul b2 hb
  have key : 9007199254740992 * (pz (d - rn d) b).natAbs ≤ (pz (rn d) b).natAbs := by
    have e1 : (pz (d - rn d) b).natAbs * 2 ^ 1074 = (d - rn d).natAbs * b.natAbs := by rw [← abs_pow, ← m1, Int.natAbs_mul]
    have e2 : (pz (rn d) b).natAbs * 2 ^ 1074 = (rn d).natAbs * b.natAbs := by rw [← abs_pow, ← m2, Int.natAbs_mul]
    have hp := Nat.two_pow_pos 1074
    have hr2 : 9007199254740992 * (d - rn d).natAbs ≤ (rn d).natAbs := by omega
    clear m1 m2
    generalize (2 : Nat) ^ 1074 = W at *
    have h3 : 9007199254740992 * (pz (d - rn d) b).natAbs * W ≤ (pz (rn d) b).natAbs * W := by
      rw [Nat.mul_assoc, e1, e2, ← Nat.mul_assoc]
      exact Nat.mul_le_mul_right _ hr2
    exact Nat.le_of_mul_le_mul_right h3 hp
  clear m1 m2 hr
  generalize pz (d - rn d) b = p at *
  generalize pz (rn d) b = r at *
  have r1 := rnN_rel p.natAbs
  have r2 := rnN_rel r.natAbs
  rw [← rn_abs] at r1 r2
  have r3 := rn_rel r
  have r4 := rnN_rel (rn p + (r - rn r)).natAbs
  rw [← rn_abs] at r4
  generalize rn p = p' at *
  generalize rn r = r' at *
  omega
theorem Dif.sok {d b : Int} (h : Dif d) (hb : Big b) (hbb : b.natAbs ≤ 2 ^ 1226) : SOk (Ap d) b := by
  have hE : ∀ i, i < (Ap d).length → Big ((Ap d).getD i 0) := fun i hi => (h.mem (getD_mem hi)).1
  have hm : ∀ i, i < (Ap d).length → (pz ((Ap d).getD i 0) b).natAbs ≤ 2 ^ 1378 := fun i hi => pz_bd (hE i hi) hb (h.mem (getD_mem hi)).2.1 hbb
  have hlen := Ap_len d
  refine ⟨by omega, hE, hb, fun k hk => ?_, fun k hk => ?_, fun k hk => ?_⟩
  · exact Nat.lt_of_le_of_lt (Sst.all hE hb hm k hk).bq (Nat.pow_lt_pow_right (by omega) (by omega))
  · exact Nat.lt_of_le_of_lt (hm k hk) (Nat.pow_lt_pow_right (by omega) (by omega))
  · rcases h.two with ⟨-, g⟩ | ⟨g1, g⟩
    · rw [g] at hk
      exact absurd hk (by show ¬ k + 1 < 1; omega)
    · rw [g] at hk ⊢
      have : k = 0 := by
        have : k + 1 < 2 := hk
        omega
      subst this
      exact fast_ok h hb g1
theorem pz_add {a b c : Int} (ha : Big a) (hb : Big b) (hc : Big c) {z : Int} (hz : (a + b) * c = z * 2 ^ 1074) : pz a c + pz b c = z := by
  refine Int.eq_of_mul_eq_mul_right (Int.ne_of_gt (pow_pos2 1074)) ?_
  rw [Int.add_mul, ← pz_mul ha hc, ← pz_mul hb hc, ← Int.add_mul, hz]
theorem Dif.scale {d b : Int} (h : Dif d) (hb : Big b) (hbb : b.natAbs ≤ 2 ^ 1226) : Fls (scaleL (Ap d) b) 670 1382 ∧ tot (scaleL (Ap d) b) * 2 ^ 1074 = d * b ∧ (scaleL (Ap d) b).length ≤ 4 := by
  have hE : ∀ i, i < (Ap d).length → Big ((Ap d).getD i 0) := fun i hi => (h.mem (getD_mem hi)).1
  have hm : ∀ i, i < (Ap d).length → (pz ((Ap d).getD i 0) b).natAbs ≤ 2 ^ 1378 := fun i hi => pz_bd (hE i hi) hb (h.mem (getD_mem hi)).2.1 hbb
  have hlen := Ap_len d
  obtain ⟨h1, h2, h3⟩ := scaleL_all h.nil hE hb hm
  refine ⟨h1.mono (by omega), ?_, by omega⟩
  rw [h2]
  rcases h.two with ⟨-, g⟩ | ⟨-, g⟩
  · rw [g] at hE ⊢
    have := pz_mul (hE 0 (by show 0 < 1; omega)) hb
    have e0 : [d].getD 0 0 = d := rfl
    rw [e0] at this
    have e : psum (fun j => pz ([d].getD j 0) b) [d].length = 0 + pz d b := rfl
    rw [e, Int.zero_add, ← this]
  · rw [g] at hE ⊢
    have g0 := pz_mul (hE 0 (by show 0 < 2; omega)) hb
    have g1 := pz_mul (hE 1 (by show 1 < 2; omega)) hb
    have e0 : [d - YtllapbkoildfiaaGreatFmt.rn d, YtllapbkoildfiaaGreatFmt.rn d].getD 0 0 = d - YtllapbkoildfiaaGreatFmt.rn d := rfl
    have e1 : [d - YtllapbkoildfiaaGreatFmt.rn d, YtllapbkoildfiaaGreatFmt.rn d].getD 1 0 = YtllapbkoildfiaaGreatFmt.rn d := rfl
    rw [e0] at g0
    rw [e1] at g1
    have e : psum (fun j => pz ([d - YtllapbkoildfiaaGreatFmt.rn d, YtllapbkoildfiaaGreatFmt.rn d].getD j 0) b) [d - YtllapbkoildfiaaGreatFmt.rn d, YtllapbkoildfiaaGreatFmt.rn d].length = 0 + pz (d - YtllapbkoildfiaaGreatFmt.rn d) b + pz (YtllapbkoildfiaaGreatFmt.rn d) b := rfl
    rw [e, Int.zero_add, Int.add_mul, ← g0, ← g1, ← Int.add_mul]
    congr 1
    omega
theorem pq_all {d e : Int} (h : Dif d) (he : Dif e) : ∀ i, i ≤ (Ap e).length → Exq (pq (Ap d) (Ap e) i) 670 (1382 + 64 * i) ∧ tot (pq (Ap d) (Ap e) i) * 2 ^ 1074 = d * psum (fun j => (Ap e).getD j 0) i ∧ (pq (Ap d) (Ap e) i).length ≤ 4 * i
  | 0, _ => ⟨⟨trivial, fun x hx => (List.not_mem_nil hx).elim, fun x hx => (List.not_mem_nil hx).elim, fun x hx => (List.not_mem_nil hx).elim, fun x hx => (List.not_mem_nil hx).elim⟩, by show 0 * (2 : Int) ^ 1074 = d * 0; rw [Int.zero_mul, Int.mul_zero], Nat.le_refl _⟩
  | i + 1, hi => by
    obtain ⟨h1, h2, h3⟩ := pq_all h he i (by omega)
    have hmem := he.mem (getD_mem (L := Ap e) (i := i) (by omega))
    obtain ⟨s1, s2, s3⟩ := h.scale hmem.1 hmem.2.1
    have hlen := Ap_len e
    obtain ⟨q1, q2, q3⟩ := sq_all h1 (s1.mono (show 1382 ≤ 1382 + 64 * i by omega)) (scaleL (Ap d) ((Ap e).getD i 0)).length (Nat.le_refl _)
    rw [psum_tot] at q2
    have e1 : pq (Ap d) (Ap e) (i + 1) = sq (pq (Ap d) (Ap e) i) (scaleL (Ap d) ((Ap e).getD i 0)) (scaleL (Ap d) ((Ap e).getD i 0)).length := rfl
    have hps : psum (fun j => (Ap e).getD j 0) (i + 1) = psum (fun j => (Ap e).getD j 0) i + (Ap e).getD i 0 := rfl
    rw [e1, hps]
    refine ⟨q1.mono ?_, ?_, by omega⟩
    · have m1 : 2 * (scaleL (Ap d) ((Ap e).getD i 0)).length * ((pq (Ap d) (Ap e) i).length + (scaleL (Ap d) ((Ap e).getD i 0)).length) ≤ 2 * 4 * 8 := Nat.mul_le_mul (by omega) (by omega)
      omega
    · rw [q2, Int.add_mul, h2, s2, Int.mul_add]
theorem Dif.pok {d e : Int} (h : Dif d) (he : Dif e) : POk (Ap d) (Ap e) := by
  have l1 := Ap_len d
  have l2 := Ap_len e
  refine ⟨h.exq.vld (by omega) (by omega), he.exq.vld (by omega) (by omega), by omega, by omega, h.nil, fun i hi => ?_, fun i hi => ?_, fun i hi => ?_, fun i hi j hj => ?_, fun i hi => ?_⟩
  · have hm := he.mem (getD_mem hi)
    exact h.sok hm.1 hm.2.1
  · have hm := he.mem (getD_mem hi)
    obtain ⟨-, s2, -⟩ := h.scale hm.1 hm.2.1
    intro g
    rw [g] at s2
    have : d * (Ap e).getD i 0 ≠ 0 := Int.mul_ne_zero h.ne hm.2.2
    rw [← s2] at this
    exact this (Int.zero_mul _)
  · have hm := he.mem (getD_mem hi)
    obtain ⟨-, -, s3⟩ := h.scale hm.1 hm.2.1
    omega
  · have hm := he.mem (getD_mem hi)
    obtain ⟨s1, -, s3⟩ := h.scale hm.1 hm.2.1
    obtain ⟨q1, -, q3⟩ := pq_all h he i (by omega)
    refine sq_gok q1 (s1.mono (show 1382 ≤ 1382 + 64 * i by omega)) ?_ j hj
    have m1 : 2 * ((scaleL (Ap d) ((Ap e).getD i 0)).length + 1) * ((pq (Ap d) (Ap e) i).length + (scaleL (Ap d) ((Ap e).getD i 0)).length) ≤ 2 * 5 * 12 := Nat.mul_le_mul (by omega) (by omega)
    omega
  · obtain ⟨-, -, q3⟩ := pq_all h he i hi
    omega
theorem Dif.prod {d e : Int} (h : Dif d) (he : Dif e) : Exq (pq (Ap d) (Ap e) (Ap e).length) 670 1510 ∧ tot (pq (Ap d) (Ap e) (Ap e).length) * 2 ^ 1074 = d * e ∧ (pq (Ap d) (Ap e) (Ap e).length).length ≤ 8 := by
  have l2 := Ap_len e
  obtain ⟨h1, h2, h3⟩ := pq_all h he (Ap e).length (Nat.le_refl _)
  rw [psum_tot, Ap_tot] at h2
  exact ⟨h1.mono (by omega), h2, by omega⟩
theorem negL_mem {x : Int} {F : List Int} (h : x ∈ negL F) : ∃ y, y ∈ F ∧ x = -y := by
  obtain ⟨y, h1, h2⟩ := List.mem_map.1 h
  exact ⟨y, h1, h2.symm⟩
theorem negL_tot (F : List Int) : tot (negL F) = -tot F := by
  induction F with
  | nil => rfl
  | cons e F ih => show -e + tot (negL F) = -(e + tot F); omega
theorem Exq.neg {F : List Int} {d m : Nat} (h : Exq F d m) : Fls (negL F) d m := by
  refine ⟨fun x hx => ?_, fun x hx => ?_, fun x hx => ?_⟩ <;> obtain ⟨y, h1, rfl⟩ := negL_mem hx
  · exact (h.rep y h1).neg
  · exact Int.dvd_neg.2 (h.dv y h1)
  · rw [Int.natAbs_neg]; exact h.bd y h1
theorem dok {E F : List Int} (hE : Exq E 670 1510) (hF : Exq F 670 1510) (l1 : E.length ≤ 8) (l2 : F.length ≤ 8) (n2 : F ≠ []) :
    DOk E F ∧ Exq (sq E (negL F) (negL F).length) 670 1766 ∧ tot (sq E (negL F) (negL F).length) = tot E - tot F ∧ (sq E (negL F) (negL F).length).length ≤ 16 := by
  have hn := hF.neg
  have hl := negL_len F
  obtain ⟨q1, q2, q3⟩ := sq_all hE hn (negL F).length (Nat.le_refl _)
  rw [psum_tot, negL_tot] at q2
  refine ⟨⟨hE.vld (by omega) (by omega), hF.vld (by omega) (by omega), by omega, by omega, n2, fun j hj => ?_, by omega⟩, q1.mono ?_, by omega, by omega⟩
  · refine sq_gok hE hn ?_ j hj
    have m1 : 2 * ((negL F).length + 1) * (E.length + (negL F).length) ≤ 2 * 9 * 16 := Nat.mul_le_mul (by omega) (by omega)
    omega
  · have m1 : 2 * (negL F).length * (E.length + (negL F).length) ≤ 2 * 8 * 16 := Nat.mul_le_mul (by omega) (by omega)
    omega
theorem tot_ne {E : List Int} {d e : Int} (h : tot E * 2 ^ 1074 = d * e) (hd : d ≠ 0) (he : e ≠ 0) : E ≠ [] := by
  intro g
  rw [g] at h
  have : d * e ≠ 0 := Int.mul_ne_zero hd he
  rw [← h] at this
  exact this (Int.zero_mul _)
end
section
def Sm (x y : Int) : Prop := (0 < x ↔ 0 < y) ∧ (x < 0 ↔ y < 0)
theorem Sm.sgn {x y : Int} (h : Sm x y) : sgn x = sgn y := by
  obtain ⟨h1, h2⟩ := h
  unfold YtllapbkoildfiaaGreatFmt.sgn
  split <;> split <;> (try split) <;> (try split) <;> omega
theorem Sm.rn (z : Int) : Sm (rn z) z := by
  have h0 : z = 0 → YtllapbkoildfiaaGreatFmt.rn z = 0 := fun h => by rw [h, rn_zero]
  have h1 := @rn_sign_pos z
  have h2 := @rn_sign_neg z
  unfold Sm
  omega
theorem Sm.trans {x y z : Int} (h : Sm x y) (g : Sm y z) : Sm x z := ⟨h.1.trans g.1, h.2.trans g.2⟩
theorem Sm.symm {x y : Int} (h : Sm x y) : Sm y x := ⟨h.1.symm, h.2.symm⟩
theorem Sm.pow (z : Int) (n : Nat) : Sm (z * 2 ^ n) z := by
  have p := pow_pos2 n
  rcases Int.lt_trichotomy z 0 with g | g | g
  · have := Int.mul_neg_of_neg_of_pos g p
    unfold Sm; omega
  · subst g; rw [Int.zero_mul]; exact ⟨Iff.rfl, Iff.rfl⟩
  · have := Int.mul_pos g p
    unfold Sm; omega
theorem Sm.mul {a b c d : Int} (h : Sm a c) (g : Sm b d) : Sm (a * b) (c * d) := by
  obtain ⟨h1, h2⟩ := h
  obtain ⟨g1, g2⟩ := g
  have hz : a = 0 ↔ c = 0 := by omega
  have gz : b = 0 ↔ d = 0 := by omega
  rcases Int.lt_trichotomy a 0 with x | x | x
  · have x' := h2.1 x
    rcases Int.lt_trichotomy b 0 with y | y | y
    · have := Int.mul_pos_of_neg_of_neg x y
      have := Int.mul_pos_of_neg_of_neg x' (g2.1 y)
      unfold Sm; omega
    · have y' := gz.1 y
      rw [y, y', Int.mul_zero, Int.mul_zero]; exact ⟨Iff.rfl, Iff.rfl⟩
    · have := Int.mul_neg_of_neg_of_pos x y
      have := Int.mul_neg_of_neg_of_pos x' (g1.1 y)
      unfold Sm; omega
  · have x' := hz.1 x
    rw [x, x', Int.zero_mul, Int.zero_mul]; exact ⟨Iff.rfl, Iff.rfl⟩
  · have x' := h1.1 x
    rcases Int.lt_trichotomy b 0 with y | y | y
    · have := Int.mul_neg_of_pos_of_neg x y
      have := Int.mul_neg_of_pos_of_neg x' (g2.1 y)
      unfold Sm; omega
    · have y' := gz.1 y
      rw [y, y', Int.mul_zero, Int.mul_zero]; exact ⟨Iff.rfl, Iff.rfl⟩
    · have := Int.mul_pos x y
      have := Int.mul_pos x' (g1.1 y)
      unfold Sm; omega
variable {a1 b1 a2 b2 L R s d Z : Int}
theorem prod_sm {a b l : Int} (h : l * 2 ^ 1074 = rn (rn a * rn b)) : Sm l (a * b) :=
  (Sm.pow l 1074).symm.trans (h ▸ (Sm.rn _).trans ((Sm.rn a).mul (Sm.rn b)))
theorem st_0 (hL : L * 2 ^ 1074 = rn (rn a1 * rn b2)) (hR : R * 2 ^ 1074 = rn (rn b1 * rn a2)) (h : L = 0 ∨ (0 < L ∧ R ≤ 0) ∨ (L < 0 ∧ 0 ≤ R)) : sgn (rn (L - R)) = sgn (a1 * b2 - b1 * a2) := by
  have h1 := prod_sm hL
  have h2 := prod_sm hR
  refine Sm.sgn ((Sm.rn _).trans ?_)
  generalize a1 * b2 = P at *
  generalize b1 * a2 = Q at *
  unfold Sm at *
  omega
theorem both_sm {x y : Int} (h1 : 0 < x → 0 < y) (h2 : x < 0 → y < 0) (h3 : x ≠ 0) : Sm x y := by unfold Sm; omega
theorem sum_shift : (((L * 2 ^ 1074).natAbs : Nat) : Int) + (((R * 2 ^ 1074).natAbs : Nat) : Int) = ((L.natAbs : Int) + (R.natAbs : Int)) * 2 ^ 1074 := by
  rw [abs_pow, abs_pow, Int.natCast_mul, Int.natCast_mul, Int.natCast_pow, Int.add_mul]; rfl
theorem abs_shift_le {x y : Int} {n : Nat} (h : x ≤ (y.natAbs : Int)) : x * 2 ^ n ≤ ((y * 2 ^ n).natAbs : Int) := by
  have := Int.mul_le_mul_of_nonneg_right h (Int.le_of_lt (pow_pos2 n))
  rw [abs_pow, Int.natCast_mul, Int.natCast_pow]
  exact this
theorem ne_shift {x : Int} {n : Nat} (h : x ≠ 0) : x * 2 ^ n ≠ 0 := Int.mul_ne_zero h (Int.ne_of_gt (pow_pos2 n))
theorem st_a (hL : L * 2 ^ 1074 = rn (rn a1 * rn b2)) (hR : R * 2 ^ 1074 = rn (rn b1 * rn a2)) (hs : s = rn ((L.natAbs : Int) + (R.natAbs : Int))) (hd : d = rn (L - R))
    (hZ : 81129638414606681695789005144064 * Z = 27021597764222992 * s) (h0 : L ≠ 0) (hb : rn Z ≤ (d.natAbs : Int)) : sgn d = sgn (a1 * b2 - b1 * a2) := by
  have h := stage_a (a1 := a1) (b1 := b1) (a2 := a2) (b2 := b2) (d := d * 2 ^ 1074) (s := s * 2 ^ 1074) (z := Z * 2 ^ 1074)
    (by rw [← hL, ← hR, sum_shift, rn_shift, ← hs]) (by rw [← hL, ← hR, ← Int.sub_mul, rn_shift, ← hd]) (by rw [← Int.mul_assoc, ← Int.mul_assoc, hZ]) (by rw [← hL]; exact ne_shift h0)
    (by rw [rn_shift]; exact abs_shift_le hb)
  exact ((Sm.pow d 1074).symm.trans (both_sm h.1 h.2.1 h.2.2)).sgn
theorem st_b {T : Int} (hL : L * 2 ^ 1074 = rn (rn a1 * rn b2)) (hR : R * 2 ^ 1074 = rn (rn b1 * rn a2)) (hs : s = rn ((L.natAbs : Int) + (R.natAbs : Int))) (hT : T * 2 ^ 1074 = rn a1 * rn b2 - rn b1 * rn a2)
    (hZ : 81129638414606681695789005144064 * Z = 18014398509481996 * s) (h0 : L ≠ 0) (hb : rn Z ≤ ((rn T).natAbs : Int)) : sgn T = sgn (a1 * b2 - b1 * a2) := by
  have h := stage_b (a1 := a1) (b1 := b1) (a2 := a2) (b2 := b2) (s := s * 2 ^ 1074) (z := Z * 2 ^ 1074)
    (by rw [← hL, ← hR, sum_shift, rn_shift, ← hs]) (by rw [← Int.mul_assoc, ← Int.mul_assoc, hZ]) (by rw [← hL]; exact ne_shift h0)
    (by rw [← hT, rn_shift, rn_shift]; exact abs_shift_le hb)
  rw [← hT] at h
  exact ((Sm.pow T 1074).symm.trans (both_sm h.1 h.2.1 h.2.2)).sgn
theorem st_n {T : Int} (hT : T * 2 ^ 1074 = rn a1 * rn b2 - rn b1 * rn a2) (h1 : a1 - rn a1 = 0) (h2 : b1 - rn b1 = 0) (h3 : a2 - rn a2 = 0) (h4 : b2 - rn b2 = 0) : sgn T = sgn (a1 * b2 - b1 * a2) := by
  rw [show rn a1 = a1 by omega, show rn b1 = b1 by omega, show rn a2 = a2 by omega, show rn b2 = b2 by omega] at hT
  rw [← hT]
  exact (Sm.pow T 1074).symm.sgn
theorem st_c {T m1 m2 m3 m4 Z2 : Int} (hL : L * 2 ^ 1074 = rn (rn a1 * rn b2)) (hR : R * 2 ^ 1074 = rn (rn b1 * rn a2)) (hs : s = rn ((L.natAbs : Int) + (R.natAbs : Int))) (hT : T * 2 ^ 1074 = rn a1 * rn b2 - rn b1 * rn a2)
    (g1 : m1 * 2 ^ 1074 = rn a1 * (b2 - rn b2)) (g2 : m2 * 2 ^ 1074 = rn b2 * (a1 - rn a1)) (g3 : m3 * 2 ^ 1074 = rn b1 * (a2 - rn a2)) (g4 : m4 * 2 ^ 1074 = rn a2 * (b1 - rn b1))
    (hd : d = rn (rn T + rn (rn (rn m1 + rn m2) - rn (rn m3 + rn m4))))
    (hZ : 730750818665451459101842416358141509827966271488 * Z = 81064793292668992 * s) (hZ2 : 81129638414606681695789005144064 * Z2 = 27021597764222984 * ((rn T).natAbs : Int)) (h0 : L ≠ 0) (hb : rn (rn Z + rn Z2) ≤ (d.natAbs : Int)) : sgn d = sgn (a1 * b2 - b1 * a2) := by
  have h := stage_c (a1 := a1) (b1 := b1) (a2 := a2) (b2 := b2) (s := s * 2 ^ 1074) (z1 := Z * 2 ^ 1074) (z2 := Z2 * 2 ^ 1074) (near := rn T * 2 ^ 1074) (w := rn (rn (rn m1 + rn m2) - rn (rn m3 + rn m4)) * 2 ^ 1074) (d := d * 2 ^ 1074)
    (by rw [← hL, ← hR, sum_shift, rn_shift, ← hs]) (by rw [← hT, rn_shift])
    (by rw [← g1, ← g2, ← g3, ← g4]; simp only [rn_shift, ← Int.add_mul, ← Int.sub_mul])
    (by rw [← Int.add_mul, rn_shift, ← hd])
    (by rw [← Int.mul_assoc, ← Int.mul_assoc, hZ])
    (by rw [← Int.mul_assoc, hZ2, abs_pow, Int.natCast_mul, Int.natCast_pow, Int.mul_assoc]; rfl)
    (by rw [← hL]; exact ne_shift h0)
    (by rw [rn_shift, rn_shift, ← Int.add_mul, rn_shift]; exact abs_shift_le hb)
  exact ((Sm.pow d 1074).symm.trans (both_sm h.1 h.2.1 h.2.2)).sgn
theorem st_d {T : Int} (hT : T * 2 ^ 1074 = a1 * b2 - b1 * a2) : sgn T = sgn (a1 * b2 - b1 * a2) := by
  rw [← hT]
  exact (Sm.pow T 1074).symm.sgn
end
section
open Go.RowKit
structure ApRel (w : World) (L : List Int) (wr : World) (v : Value) : Prop where
  ok : ∃ xs, Ws L xs ∧ wr.ownsRow w.heap.size 3 1 v L.length (vw xs)
  turn : Turn (fun _ => False) w wr
def ap (l h : Int) : Nat → List Int
  | 0 => []
  | 1 => nz l
  | _ => nz l ++ nz h
theorem ap_len (l h : Int) (k : Nat) : (ap l h k).length ≤ k := by
  have a : ∀ z, (nz z).length ≤ 1 := nz_len
  match k with
  | 0 => exact Nat.le_refl _
  | 1 => exact a l
  | k + 2 =>
    show (nz l ++ nz h).length ≤ _
    have := a l
    have := a h
    rw [List.length_append]; omega
theorem ap_next (l h : Int) (k : Nat) (hk : k < 2) : ap l h (k + 1) = ap l h k ++ nz (if k = 0 then l else h) := by
  rcases (by omega : k = 0 ∨ k = 1) with rfl | rfl <;> rfl
set_option maxRecDepth 100000 in
set_option maxHeartbeats 4000000 in
theorem Apart_any (x y : Nat) (a b : Int) (w : World) (hx : FV x a) (hy : FV y b) (ha : a.natAbs < 2 ^ 2080) (hb : b.natAbs < 2 ^ 2080) (hT : Tab w) :
    Calls Tryz.prog 33 #[.int .i64 (iw x), .int .i64 (iw y)] w (PL w (nz (a - b - rn (a - b)) ++ nz (rn (a - b)))) := by
  have hA := TwoDiff_any x y a b w hx hy ha hb hT
  have fb := from_bits
  clear hx hy ha hb hT
  generalize a - b - rn (a - b) = l at *
  generalize rn (a - b) = h at *
  have i3 : (Tryz.prog.info? 3).map (fun i => (i.zero, i.size, i.bytes)) = some (some (.int .i64 0), 1, 8) := by kernel_rfl
  obtain ⟨i0, hi, hz0, hz1, hz2⟩ := info_parts i3
  go_enter Tryz.func33, Tryz.ntmps33
  go_wp2_with (go_at_call 52; ((with_reducible refine hA.mono ?_)); rintro e w1 ⟨h0, l0, rfl, h1, h2, h3⟩)
  have q0 : ∀ w, (Instr.index 87 (.agg #[.int .i64 (iw l0), .int .i64 (iw h0)]) (.int .i64 0)).run Tryz.prog w = .ok (.int .i64 (iw l0)) w := fun _ => by kernel_rfl
  have q1 : ∀ w, (Instr.index 87 (.agg #[.int .i64 (iw l0), .int .i64 (iw h0)]) (.int .i64 1)).run Tryz.prog w = .ok (.int .i64 (iw h0)) w := fun _ => by kernel_rfl
  replace h1 := Lib.hid h1
  replace h2 := Lib.hid h2
  replace h3 := Lib.hid h3
  go_loopw [21, 8] (fun vi vp wr => ∃ (k : Nat) (u : Value), k ≤ 2 ∧ vi = .int .i64 k ∧ u = vp ∧ ApRel w (ap l h k) wr u) (fun vi _ _ => 2 - (intOf vi).toNat)
  case atStart => exact ⟨0, _, by omega, rfl, rfl, ⟨[], ⟨rfl, fun i hi => absurd hi (Nat.not_lt_zero _)⟩, World.ownsRow_nil _ _ _ _⟩, h3.out⟩
  case round =>
    obtain ⟨k, vp, hk, rfl, rfl, hrel⟩ := hrel
    obtain ⟨xs, hxs, hown⟩ := hrel.ok
    have hln := ap_len l h k
    have ht := hrel.turn
    clear hrel
    by_cases hkm : k < 2
    · rcases (by omega : k = 0 ∨ k = 1) with rfl | rfl
      · have hxz := h2.out
        have hw := wrap_iw hxz.1.1
        have o := bne_eq hxz.1.nn (show NN 0 from ⟨by omega, by omega⟩)
        rw [rk_zero] at o
        have hr := rk_fv_zero hxz
        by_cases hz0' : l = 0
        · rw [decide_eq_true (hr.2 hz0')] at o
          have hnext : ap l h 1 = ap l h 0 := by rw [ap_next l h 0 (by omega)]; show _ ++ nz l = _; rw [hz0', nz_zero, List.append_nil]
          have hrel2 := Lib.hid (show ApRel w (ap l h 1) wr vp from ⟨⟨xs, by rw [hnext]; exact hxs, by rw [hnext]; exact hown⟩, ht⟩)
          clear hr hxz hxs hown hnext ht
          go_wp2
          all_goals go_roundw
          case rel => exact ⟨1, _, by omega, rfl, rfl, hrel2.out⟩
          case measure => simp [intOf]
        · rw [decide_eq_false fun h => hz0' (hr.1 h)] at o
          have hnext : ap l h 1 = ap l h 0 ++ [l] := by rw [ap_next l h 0 (by omega)]; show _ ++ nz l = _; rw [nz_some hz0']
          have hxs2 := Lib.hid (hxs.more hxz hz0')
          have hs : w.heap.size ≤ (wr.alloc (.cells #[.int .i64 (iw l0)] 3)).heap.size := by rw [size_alloc]; have := ht.size; omega
          have hown2 := hown.alloc (.cells #[.int .i64 (iw l0)] 3)
          have hlt := Lib.hid (fun j (e : vp.ownBlock = some j) => (hown2.lt j e).1)
          have hc := cell_made #[.int .i64 (iw l0)] 3 wr 0
          have ht2 := Lib.hid (ht.alloc (.cells #[.int .i64 (iw l0)] 3))
          generalize hnn : (ap l h 0).length = n at *
          clear hr hxz hxs hown ht
          go_wp2_with (at_builtin; refine wpList_append_own _ rfl _ _ 59 rfl w.heap.size 3 i0 (.int .i64 0) 1 8 (by kernel_rfl) hi hz0 hz1 hz2 rfl (by decide) vp n (vw xs) rfl hown2 ⟨wr.heap.size, 0, none⟩ 1 1 [.int .i64 (iw l0)] rfl rfl (fun j u hj => by
                        rcases j with _ | j
                        · have e : Value.int .i64 (iw l0) = u := by simpa using hj
                          subst e
                          exact hc
                        · simp at hj) (by intro u hu; simp at hu; subst hu; rfl) (by unfold maxLen; omega) (by omega) hs ?_)
          intro v' w' hown3 hg _
          have hrel2 := Lib.hid (show ApRel w (ap l h 1) w' v' from ⟨⟨xs ++ [l0], by rw [hnext]; exact hxs2.out, by
            rw [hnext, List.length_append, hnn]
            have e : vw (xs ++ [l0]) = vw xs ++ [.int .i64 (iw l0)] := by unfold vw; rw [List.map_append]; rfl
            rw [e]; exact hown3⟩, ht2.out.trans (Turn.ofGrown (S := fun k => vp.ownBlock = some k) hg fun _ _ e => e) fun j hj e => by
              have := hlt.out j e
              omega⟩)
          clear hown2 hown3 hg hnext
          go_wp2_with fail
          all_goals go_roundw
          case rel => exact ⟨1, _, by omega, rfl, rfl, hrel2.out⟩
          case measure => simp [intOf]
      · have hxz := h1.out
        have hw := wrap_iw hxz.1.1
        have o := bne_eq hxz.1.nn (show NN 0 from ⟨by omega, by omega⟩)
        rw [rk_zero] at o
        have hr := rk_fv_zero hxz
        by_cases hz0' : h = 0
        · rw [decide_eq_true (hr.2 hz0')] at o
          have hnext : ap l h 2 = ap l h 1 := by rw [ap_next l h 1 (by omega)]; show _ ++ nz h = _; rw [hz0', nz_zero, List.append_nil]
          have hrel2 := Lib.hid (show ApRel w (ap l h 2) wr vp from ⟨⟨xs, by rw [hnext]; exact hxs, by rw [hnext]; exact hown⟩, ht⟩)
          clear hr hxz hxs hown hnext ht
          go_wp2
          all_goals go_roundw
          case rel => exact ⟨2, _, by omega, rfl, rfl, hrel2.out⟩
          case measure => simp [intOf]
        · rw [decide_eq_false fun h => hz0' (hr.1 h)] at o
          have hnext : ap l h 2 = ap l h 1 ++ [h] := by rw [ap_next l h 1 (by omega)]; show _ ++ nz h = _; rw [nz_some hz0']
          have hxs2 := Lib.hid (hxs.more hxz hz0')
          have hs : w.heap.size ≤ (wr.alloc (.cells #[.int .i64 (iw h0)] 3)).heap.size := by rw [size_alloc]; have := ht.size; omega
          have hown2 := hown.alloc (.cells #[.int .i64 (iw h0)] 3)
          have hlt := Lib.hid (fun j (e : vp.ownBlock = some j) => (hown2.lt j e).1)
          have hc := cell_made #[.int .i64 (iw h0)] 3 wr 0
          have ht2 := Lib.hid (ht.alloc (.cells #[.int .i64 (iw h0)] 3))
          generalize hnn : (ap l h 1).length = n at *
          clear hr hxz hxs hown ht
          go_wp2_with (at_builtin; refine wpList_append_own _ rfl _ _ 59 rfl w.heap.size 3 i0 (.int .i64 0) 1 8 (by kernel_rfl) hi hz0 hz1 hz2 rfl (by decide) vp n (vw xs) rfl hown2 ⟨wr.heap.size, 0, none⟩ 1 1 [.int .i64 (iw h0)] rfl rfl (fun j u hj => by
                        rcases j with _ | j
                        · have e : Value.int .i64 (iw h0) = u := by simpa using hj
                          subst e
                          exact hc
                        · simp at hj) (by intro u hu; simp at hu; subst hu; rfl) (by unfold maxLen; omega) (by omega) hs ?_)
          intro v' w' hown3 hg _
          have hrel2 := Lib.hid (show ApRel w (ap l h 2) w' v' from ⟨⟨xs ++ [h0], by rw [hnext]; exact hxs2.out, by
            rw [hnext, List.length_append, hnn]
            have e : vw (xs ++ [h0]) = vw xs ++ [.int .i64 (iw h0)] := by unfold vw; rw [List.map_append]; rfl
            rw [e]; exact hown3⟩, ht2.out.trans (Turn.ofGrown (S := fun k => vp.ownBlock = some k) hg fun _ _ e => e) fun j hj e => by
              have := hlt.out j e
              omega⟩)
          clear hown2 hown3 hg hnext
          go_wp2_with fail
          all_goals go_roundw
          case rel => exact ⟨2, _, by omega, rfl, rfl, hrel2.out⟩
          case measure => simp [intOf]
    · obtain rfl : k = 2 := by omega
      obtain ⟨a1, c1, rfl, e1, e2⟩ := hxs.ls hown
      go_wp2
      go_ret
      exact ⟨a1, c1, rfl, e1, e2, ht⟩
end
end Go.Proofs.YtllapbkoildfiaaGreatFmt
