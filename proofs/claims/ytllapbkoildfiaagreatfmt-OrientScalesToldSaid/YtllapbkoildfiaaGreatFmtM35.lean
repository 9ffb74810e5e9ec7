/- orient's Parts: Of, Mul, Sub, Sign, Tail, Apart · The plain law of expansions: what grows stays without overlap, and keeps its sum. -/
import Derived.Test.YtllapbkoildfiaaGreatFmtM34
import Derived.Test.YtllapbkoildfiaaGreatFmtM33
set_option linter.all false
set_option exponentiation.threshold 100000
namespace Go.Proofs.YtllapbkoildfiaaGreatFmt
section
open Go.RowKit
def PL (w : World) (L : List Int) (en : Ending) (w' : World) : Prop := ∃ a c, en = .returned (.slice a L.length c) ∧ L.length ≤ c ∧ Ls w' a L ∧ Turn (fun _ => False) w w'
theorem rk_fv_zero {x : Nat} {z : Int} (h : FV x z) : rk x = 0 ↔ z = 0 := by
  rw [← h.2, fv_zero]
  unfold rk
  split <;> omega
theorem pOf_any (x : Nat) (z : Int) (w : World) (hx : FV x z) : Calls Tryz.prog 27 #[.float .f64 x] w (PL w (nz z)) := by
  have o := beq_eq hx.1.nn (show NN 0 from ⟨by omega, by omega⟩)
  rw [rk_zero] at o
  have hr := rk_fv_zero hx
  by_cases hz : z = 0
  · rw [decide_eq_true (hr.2 hz)] at o
    rw [hz, nz_zero]
    clear hr hx
    go_enter Tryz.func27, Tryz.ntmps27
    go_wp2
    go_ret
    exact ⟨none, 0, rfl, Nat.le_refl _, .inl rfl, Turn.refl _ _⟩
  · rw [decide_eq_false fun h => hz (hr.1 h)] at o
    have c1 := pattern_any x w hx.1.1
    rw [nz_some hz]
    have hfin : PL w [z] (.returned (.slice (some ⟨w.heap.size, 0, none⟩) 1 1)) (w.alloc (.cells #[.int .i64 (iw x)] 3)) := ⟨_, 1, rfl, Nat.le_refl _, .inr ⟨_, 0, rfl, fun i hi => by
      obtain rfl : i = 0 := by simpa using hi
      exact ⟨x, cell_made _ _ _ 0, hx, hz⟩⟩, (Turn.refl _ _).alloc _⟩
    replace hfin := Lib.hid hfin
    clear hr hx
    go_enter Tryz.func27, Tryz.ntmps27
    go_wp2_with (go_at_call 46; refine c1.mono ?_; rintro e w' ⟨rfl, rfl⟩)
    go_ret
    exact hfin.out
theorem pMul_any (a f : Option Addr) (c d : Nat) (E F : List Int) (w : World) (hE : Ls w a E) (hc : E.length ≤ c) (hF : Ls w f F) (hd : F.length ≤ d) (hP : POk E F) (hT : Tab w) (hK : Kar w) :
    Calls Tryz.prog 28 #[.slice a E.length c, .slice f F.length d] w (PL w (pq E F F.length)) := by
  have hA := Product_any a f c d E F w hE hc hF hd hP hT hK
  clear hP hE hF hT hK
  generalize pq E F F.length = L at *
  generalize E.length = n at *
  generalize F.length = m at *
  go_enter Tryz.func28, Tryz.ntmps28
  go_wp2_with (go_at_call 47; ((with_reducible refine hA.mono ?_)); rintro e w' ⟨a1, c1, rfl, h1, h2, h3⟩)
  go_ret
  exact ⟨a1, c1, rfl, h1, h2, h3⟩
theorem pSub_any (a f : Option Addr) (c d : Nat) (E F : List Int) (w : World) (hE : Ls w a E) (hc : E.length ≤ c) (hF : Ls w f F) (hd : F.length ≤ d) (hP : DOk E F) (hT : Tab w) :
    Calls Tryz.prog 29 #[.slice a E.length c, .slice f F.length d] w (PL w (sq E (negL F) (negL F).length)) := by
  have hA := Diff_any a f c d E F w hE hc hF hd hP hT
  clear hP hE hF hT
  generalize sq E (negL F) (negL F).length = L at *
  generalize E.length = n at *
  generalize F.length = m at *
  go_enter Tryz.func29, Tryz.ntmps29
  go_wp2_with (go_at_call 48; ((with_reducible refine hA.mono ?_)); rintro e w' ⟨a1, c1, rfl, h1, h2, h3⟩)
  go_ret
  exact ⟨a1, c1, rfl, h1, h2, h3⟩
theorem pSign_any (a : Option Addr) (c : Nat) (E : List Int) (w : World) (hE : Ls w a E) (hV : Vld E) (hn : E.length ≤ 4096) :
    Calls Tryz.prog 31 #[.slice a E.length c] w fun e w' => e = .returned (.int .i64 (esg E)) ∧ Turn (fun _ => False) w w' := by
  have hA := eSign_any a c E w hE hV hn
  clear hE hV
  generalize esg E = s at *
  generalize E.length = n at *
  go_enter Tryz.func31, Tryz.ntmps31
  go_wp2_with (go_at_call 51; ((with_reducible refine hA.mono ?_)); rintro e w' ⟨rfl, h1⟩)
  go_ret
  exact ⟨rfl, h1⟩
theorem Tail_any (x y u : Nat) (a b : Int) (w : World) (hx : FV x a) (hy : FV y b) (ha : a.natAbs < 2 ^ 2080) (hb : b.natAbs < 2 ^ 2080) (hT : Tab w) :
    Calls Tryz.prog 32 #[.int .i64 (iw x), .int .i64 (iw y), .float .f64 u] w fun e w' => ∃ l, e = .returned (.float .f64 l) ∧ FV l (a - b - rn (a - b)) ∧ Turn (fun _ => False) w w' := by
  have hA := TwoDiff_any x y a b w hx hy ha hb hT
  have fb := from_bits
  clear hx hy ha hb hT
  generalize a - b - rn (a - b) = z at *
  go_enter Tryz.func32, Tryz.ntmps32
  go_wp2_with (go_at_call 52; ((with_reducible refine hA.mono ?_)); rintro e w' ⟨h, l, rfl, h1, h2, h3⟩
               have hw := wrap_iw h2.1.1)
  go_ret
  exact ⟨l, rfl, h2, h3⟩
structure Ws (L : List Int) (xs : List Nat) : Prop where
  len : xs.length = L.length
  ok : ∀ i, i < L.length → FV (xs.getD i 0) (L.getD i 0) ∧ L.getD i 0 ≠ 0
theorem Ws.more {L : List Int} {xs : List Nat} {x : Nat} {z : Int} (h : Ws L xs) (hx : FV x z) (hz : z ≠ 0) : Ws (L ++ [z]) (xs ++ [x]) := by
  refine ⟨by rw [List.length_append, List.length_append, h.len]; rfl, fun i hi => ?_⟩
  rw [List.length_append] at hi
  have h1 : [z].length = 1 := rfl
  by_cases g : i < L.length
  · rw [List.getD_eq_getElem?_getD, List.getD_eq_getElem?_getD, List.getElem?_append_left (by rw [h.len]; exact g), List.getElem?_append_left g, ← List.getD_eq_getElem?_getD, ← List.getD_eq_getElem?_getD]
    exact h.ok i g
  · obtain rfl : i = L.length := by omega
    rw [List.getD_eq_getElem?_getD, List.getD_eq_getElem?_getD, List.getElem?_append_right (by rw [h.len]; omega), List.getElem?_append_right (by omega), h.len, Nat.sub_self]
    exact ⟨hx, hz⟩
def vw (xs : List Nat) : List Value := xs.map fun x => .int .i64 (iw x)
theorem Ws.ls {w : World} {base : Nat} {v : Value} {L : List Int} {xs : List Nat} (h : Ws L xs) (ho : w.ownsRow base 3 1 v L.length (vw xs)) : ∃ a c, v = .slice a L.length c ∧ L.length ≤ c ∧ Ls w a L := by
  have hcells := fun g => ho.cells (g := g)
  obtain ⟨-, ⟨rfl, h0⟩ | ⟨g, cap, cur, rfl, h2, -, h3, -⟩⟩ := ho
  · rw [h0]
    exact ⟨none, 0, rfl, Nat.le_refl _, .inl (List.eq_nil_of_length_eq_zero h0)⟩
  · refine ⟨_, cap, rfl, h3, .inr ⟨g, 0, rfl, fun i hi => ?_⟩⟩
    obtain ⟨h4, h5⟩ := h.ok i hi
    refine ⟨_, ?_, h4, h5⟩
    have h6 : (vw xs)[i]? = some (.int .i64 (iw (xs.getD i 0))) := by
      unfold vw
      have hl : i < xs.length := by rw [h.len]; exact hi
      rw [List.getElem?_map, List.getD_eq_getElem?_getD, List.getElem?_eq_getElem hl]; rfl
    have := hcells g rfl i _ h6
    rw [addr_add] at this
    exact this
end
section
def NOR : List Int → List Int → Prop
  | [], _ => True
  | e :: L, R => (∃ k : Nat, e.natAbs < 2 ^ k ∧ (∀ x, x ∈ L → (2 : Int) ^ k ∣ x) ∧ ∀ x, x ∈ R → (2 : Int) ^ k ∣ x) ∧ NOR L R
theorem NOR.weak {L R R' : List Int} (h : NOR L R) (hR : ∀ k : Nat, (∀ x, x ∈ R → (2 : Int) ^ k ∣ x) → ∀ x, x ∈ R' → (2 : Int) ^ k ∣ x) : NOR L R' := by
  induction L with
  | nil => trivial
  | cons e L ih =>
    obtain ⟨⟨k, h1, h2, h3⟩, h4⟩ := h
    exact ⟨⟨k, h1, h2, hR k h3⟩, ih h4⟩
theorem NOR.snoc {L R : List Int} {z : Int} (h : NOR L (z :: R)) (hz : ∃ k : Nat, z.natAbs < 2 ^ k ∧ ∀ x, x ∈ R → (2 : Int) ^ k ∣ x) : NOR (L ++ [z]) R := by
  induction L with
  | nil =>
    obtain ⟨k, h1, h2⟩ := hz
    exact ⟨⟨k, h1, fun x hx => (List.not_mem_nil hx).elim, h2⟩, trivial⟩
  | cons e L ih =>
    obtain ⟨⟨k, h1, h2, h3⟩, h4⟩ := h
    refine ⟨⟨k, h1, fun x hx => ?_, fun x hx => h3 x (List.mem_cons_of_mem _ hx)⟩, ih h4⟩
    rcases List.mem_append.1 hx with g | g
    · exact h2 x g
    · rw [List.mem_singleton.1 g]; exact h3 z List.mem_cons_self
theorem NOR.at {L : List Int} (h : NOR L []) : ∀ i, i < L.length → ∃ k : Nat, (L.getD i 0).natAbs < 2 ^ k ∧ ∀ x, x ∈ L.drop (i + 1) → (2 : Int) ^ k ∣ x := by
  induction L with
  | nil => intro i hi; exact absurd hi (Nat.not_lt_zero _)
  | cons e L ih =>
    obtain ⟨⟨k, h1, h2, h3⟩, h4⟩ := h
    intro i hi
    rcases i with _ | i
    · exact ⟨k, h1, h2⟩
    · exact ih h4 i (by simpa using hi)
theorem ipow_dvd {a b : Nat} (h : a ≤ b) : (2 : Int) ^ a ∣ 2 ^ b := ⟨2 ^ (b - a), by rw [← Int.pow_add]; congr 1; omega⟩
def tot : List Int → Int
  | [] => 0
  | e :: L => e + tot L
theorem tot_append (L M : List Int) : tot (L ++ M) = tot L + tot M := by
  induction L with
  | nil => show tot M = 0 + tot M; omega
  | cons e L ih => show e + tot (L ++ M) = e + tot L + tot M; omega
theorem tot_nz (z : Int) : tot (nz z) = z := by
  unfold nz
  split
  · rename_i h; rw [h]; rfl
  · show z + 0 = z; omega
theorem drop_at {L : List Int} {i : Nat} (h : i < L.length) : L.drop i = L.getD i 0 :: L.drop (i + 1) := by
  rw [List.drop_eq_getElem_cons h, List.getD_eq_getElem?_getD, List.getElem?_eq_getElem h]; rfl
theorem psum_drop (L : List Int) : ∀ i, i ≤ L.length → psum (fun j => L.getD j 0) i + tot (L.drop i) = tot L
  | 0, _ => by show 0 + tot L = tot L; omega
  | i + 1, h => by
    have := psum_drop L i (by omega)
    rw [drop_at (show i < L.length by omega)] at this
    show psum _ i + L.getD i 0 + tot (L.drop (i + 1)) = tot L
    have e : tot (L.getD i 0 :: L.drop (i + 1)) = L.getD i 0 + tot (L.drop (i + 1)) := rfl
    omega
theorem psum_tot (L : List Int) : psum (fun j => L.getD j 0) L.length = tot L := by
  have := psum_drop L L.length (Nat.le_refl _)
  rw [List.drop_length] at this
  have e : tot [] = 0 := rfl
  omega
theorem getD_mem {L : List Int} {i : Nat} (h : i < L.length) : L.getD i 0 ∈ L := by
  rw [List.getD_eq_getElem?_getD, List.getElem?_eq_getElem h]
  exact List.getElem_mem h
theorem err_low (s : Int) : ∃ k : Nat, (s - rn s).natAbs < 2 ^ k ∧ (2 : Int) ^ k ∣ rn s := by
  obtain ⟨k, h1, h2, h3⟩ := binade s
  rcases h3 with rfl | h3
  · rw [rn_rep (Rep.small (by omega) (by omega)), Int.sub_self]
    exact ⟨0, by decide, ⟨s, by omega⟩⟩
  · have hd := rn_dvd_big h3
    obtain ⟨e1, e2⟩ := rn_err (z := s) (k := k) (by omega) (by omega)
    refine ⟨k, ?_, hd⟩
    have e : (2 : Int) ^ k = ((2 ^ k : Nat) : Int) := by rw [Int.natCast_pow]; rfl
    have p := Nat.two_pow_pos k
    rw [e] at e1 e2
    omega
theorem grow_step {L T : List Int} {q x : Int} (h : NOR L (q :: x :: T)) (hx : ∃ k : Nat, x.natAbs < 2 ^ k ∧ ∀ y, y ∈ T → (2 : Int) ^ k ∣ y) (hq : Rep q) :
    NOR (L ++ nz (q + x - rn (q + x))) (rn (q + x) :: T) := by
  have hd : ∀ k : Nat, (∀ y, y ∈ q :: x :: T → (2 : Int) ^ k ∣ y) → ((2 : Int) ^ k ∣ rn (q + x)) ∧ ((2 : Int) ^ k ∣ q + x - rn (q + x)) ∧ ∀ y, y ∈ T → (2 : Int) ^ k ∣ y := fun k g => by
    have g1 := g q List.mem_cons_self
    have g2 := g x (List.mem_cons_of_mem _ List.mem_cons_self)
    have g3 := Int.dvd_add g1 g2
    exact ⟨rn_dvd g3, Int.dvd_sub g3 (rn_dvd g3), fun y hy => g y (List.mem_cons_of_mem _ (List.mem_cons_of_mem _ hy))⟩
  by_cases hl : q + x - rn (q + x) = 0
  · rw [hl, nz_zero, List.append_nil]
    refine h.weak fun k g y hy => ?_
    obtain ⟨g1, -, g3⟩ := hd k g
    rcases List.mem_cons.1 hy with rfl | hy
    · exact g1
    · exact g3 y hy
  · rw [nz_some hl]
    refine NOR.snoc (h.weak fun k g y hy => ?_) ?_
    · obtain ⟨g1, g2, g3⟩ := hd k g
      rcases List.mem_cons.1 hy with rfl | hy
      · exact g2
      · rcases List.mem_cons.1 hy with rfl | hy
        · exact g1
        · exact g3 y hy
    · obtain ⟨k1, a1, a2⟩ := hx
      obtain ⟨k2, b1, b2⟩ := err_low (q + x)
      have hn := rn_near (z := q + x) hq
      have hle : (q + x - rn (q + x)).natAbs ≤ x.natAbs := by omega
      have dd : ∀ {a b : Nat} {y : Int}, a ≤ b → (2 : Int) ^ b ∣ y → (2 : Int) ^ a ∣ y := fun h g => Int.dvd_trans (ipow_dvd h) g
      rcases Nat.le_total k1 k2 with g | g
      · refine ⟨k1, by omega, fun y hy => ?_⟩
        rcases List.mem_cons.1 hy with rfl | hy
        · exact dd g b2
        · exact a2 y hy
      · refine ⟨k2, b1, fun y hy => ?_⟩
        rcases List.mem_cons.1 hy with rfl | hy
        · exact b2
        · exact dd g (a2 y hy)
structure Exq (E : List Int) (d m : Nat) : Prop where
  no : NOR E []
  nz : ∀ x, x ∈ E → x ≠ 0
  dv : ∀ x, x ∈ E → (2 : Int) ^ d ∣ x
  bd : ∀ x, x ∈ E → x.natAbs ≤ 2 ^ m
  rep : ∀ x, x ∈ E → Rep x
theorem mem_nz {x z : Int} (h : x ∈ nz z) : x = z ∧ z ≠ 0 := by
  unfold YtllapbkoildfiaaGreatFmt.nz at h
  split at h
  · exact (List.not_mem_nil h).elim
  · rename_i g
    exact ⟨List.mem_singleton.1 h, g⟩
structure Gst (E : List Int) (b : Int) (d m i : Nat) : Prop where
  no : NOR (gout E b i) (gq E b i :: E.drop i)
  rq : Rep (gq E b i)
  nz : ∀ x, x ∈ gout E b i → x ≠ 0
  dv : ∀ x, x ∈ gout E b i → (2 : Int) ^ d ∣ x
  dq : (2 : Int) ^ d ∣ gq E b i
  bd : ∀ x, x ∈ gout E b i → x.natAbs ≤ 2 ^ m
  bq : (gq E b i).natAbs ≤ 2 ^ (m + 2 * i)
  rep : ∀ x, x ∈ gout E b i → Rep x
  tot : tot (gout E b i) + gq E b i = b + psum (fun j => E.getD j 0) i
theorem rn_le2 {z : Int} {N : Nat} (h : z.natAbs ≤ 2 ^ N) : (rn z).natAbs ≤ 2 ^ N := by
  rw [rn_abs]
  have := rnN_mono h
  rwa [rnN_rep (n := 2 ^ N) ⟨1, N, by omega, by omega⟩] at this
theorem Gst.all {E : List Int} {d m : Nat} {b : Int} (h : Exq E d m) (hb : Rep b) (hd : (2 : Int) ^ d ∣ b) (hm : b.natAbs ≤ 2 ^ m) : ∀ i, i ≤ E.length → Gst E b d m i
  | 0, _ => ⟨trivial, hb, fun x hx => (List.not_mem_nil hx).elim, fun x hx => (List.not_mem_nil hx).elim, hd, fun x hx => (List.not_mem_nil hx).elim, hm, fun x hx => (List.not_mem_nil hx).elim, by show 0 + b = b + 0; omega⟩
  | i + 1, hi => by
    have g := Gst.all h hb hd hm i (by omega)
    have hlt : i < E.length := by omega
    have hmem := getD_mem hlt
    have hno := g.no
    rw [drop_at hlt] at hno
    have hst := grow_step hno (h.no.at i hlt) g.rq
    have hdv := Int.dvd_add g.dq (h.dv _ hmem)
    have hnear := rn_near (z := gq E b i + E.getD i 0) g.rq
    have hbx := h.bd _ hmem
    have hbq := g.bq
    have hps : psum (fun j => E.getD j 0) (i + 1) = psum (fun j => E.getD j 0) i + E.getD i 0 := rfl
    have hgt := g.tot
    have hre := rep_err g.rq (h.rep _ hmem)
    have e1 : gout E b (i + 1) = gout E b i ++ YtllapbkoildfiaaGreatFmt.nz (gq E b i + E.getD i 0 - rn (gq E b i + E.getD i 0)) := rfl
    have e2 : gq E b (i + 1) = rn (gq E b i + E.getD i 0) := rfl
    have hcase : ∀ x, x ∈ gout E b (i + 1) → x ∈ gout E b i ∨ x = gq E b i + E.getD i 0 - rn (gq E b i + E.getD i 0) ∧ x ≠ 0 := fun x hx => by
      rw [e1] at hx
      rcases List.mem_append.1 hx with k | k
      · exact .inl k
      · obtain ⟨k1, k2⟩ := mem_nz k
        exact .inr ⟨k1, k1 ▸ k2⟩
    refine ⟨by rw [e1, e2]; exact hst, by rw [e2]; exact rep_rn _, fun x hx => ?_, fun x hx => ?_, by rw [e2]; exact rn_dvd hdv, fun x hx => ?_, ?_, fun x hx => ?_, ?_⟩
    · rcases hcase x hx with k | ⟨-, k⟩
      · exact g.nz x k
      · exact k
    · rcases hcase x hx with k | ⟨k, -⟩
      · exact g.dv x k
      · rw [k]; exact Int.dvd_sub hdv (rn_dvd hdv)
    · rcases hcase x hx with k | ⟨k, -⟩
      · exact g.bd x k
      · rw [k]; omega
    · rw [e2]
      refine rn_le2 ?_
      have p1 : 2 ^ (m + 2 * (i + 1)) = 2 ^ (m + 2 * i) * 4 := by rw [show m + 2 * (i + 1) = m + 2 * i + 2 by omega, Nat.pow_add]
      have p2 : 2 ^ m ≤ 2 ^ (m + 2 * i) := Nat.pow_le_pow_right (by omega) (by omega)
      rw [p1]
      omega
    · rcases hcase x hx with k | ⟨k, -⟩
      · exact g.rep x k
      · rw [k]; exact hre
    · rw [e1, e2, tot_append, tot_nz, hps]
      omega
theorem Exq.grow {E : List Int} {d m : Nat} {b : Int} (h : Exq E d m) (hb : Rep b) (hd : (2 : Int) ^ d ∣ b) (hm : b.natAbs ≤ 2 ^ m) : Exq (growL E b) d (m + 2 * E.length) ∧ YtllapbkoildfiaaGreatFmt.tot (growL E b) = b + YtllapbkoildfiaaGreatFmt.tot E ∧ (growL E b).length ≤ E.length + 1 := by
  have g := Gst.all h hb hd hm E.length (Nat.le_refl _)
  have p2 : 2 ^ m ≤ 2 ^ (m + 2 * E.length) := Nat.pow_le_pow_right (by omega) (by omega)
  have hcase : ∀ x, x ∈ growL E b → x ∈ gout E b E.length ∨ x = gq E b E.length ∧ x ≠ 0 := fun x hx => by
    rcases List.mem_append.1 hx with k | k
    · exact .inl k
    · obtain ⟨k1, k2⟩ := mem_nz k
      exact .inr ⟨k1, k1 ▸ k2⟩
  refine ⟨⟨?_, fun x hx => ?_, fun x hx => ?_, fun x hx => ?_, fun x hx => ?_⟩, ?_, ?_⟩
  · have hno := g.no
    rw [List.drop_length] at hno
    unfold growL
    by_cases hz : gq E b E.length = 0
    · rw [hz, nz_zero, List.append_nil]
      exact hno.weak fun k _ y hy => (List.not_mem_nil hy).elim
    · rw [nz_some hz]
      exact hno.snoc ⟨(gq E b E.length).natAbs, Nat.lt_two_pow_self, fun y hy => (List.not_mem_nil hy).elim⟩
  · rcases hcase x hx with k | ⟨-, k⟩
    · exact g.nz x k
    · exact k
  · rcases hcase x hx with k | ⟨k, -⟩
    · exact g.dv x k
    · rw [k]; exact g.dq
  · rcases hcase x hx with k | ⟨k, -⟩
    · exact Nat.le_trans (g.bd x k) p2
    · rw [k]; exact g.bq
  · rcases hcase x hx with k | ⟨k, -⟩
    · exact g.rep x k
    · rw [k]; exact g.rq
  · have := g.tot
    rw [psum_tot] at this
    unfold growL
    rw [tot_append, tot_nz]
    exact this
  · have h1 := gout_len E b E.length
    have h2 := nz_len (gq E b E.length)
    unfold growL
    rw [List.length_append]
    omega
theorem Exq.gok {E : List Int} {d m : Nat} {b : Int} (h : Exq E d m) (hb : Rep b) (hd : (2 : Int) ^ d ∣ b) (hm : b.natAbs ≤ 2 ^ m) (hl : m + 2 * E.length < 2080) : GOk E b := by
  refine ⟨by omega, fun i hi => ?_, fun i hi => ?_⟩
  · have := (Gst.all h hb hd hm i hi).bq
    exact Nat.lt_of_le_of_lt this (Nat.pow_lt_pow_right (by omega) (by omega))
  · exact Nat.lt_of_le_of_lt (h.bd _ (getD_mem hi)) (Nat.pow_lt_pow_right (by omega) (by omega))
structure Fls (F : List Int) (d m : Nat) : Prop where
  rep : ∀ x, x ∈ F → Rep x
  dv : ∀ x, x ∈ F → (2 : Int) ^ d ∣ x
  bd : ∀ x, x ∈ F → x.natAbs ≤ 2 ^ m
theorem Exq.mono {E : List Int} {d m n : Nat} (h : Exq E d m) (hn : m ≤ n) : Exq E d n := ⟨h.no, h.nz, h.dv, fun x hx => Nat.le_trans (h.bd x hx) (Nat.pow_le_pow_right (by omega) hn), h.rep⟩
theorem Fls.mono {E : List Int} {d m n : Nat} (h : Fls E d m) (hn : m ≤ n) : Fls E d n := ⟨h.rep, h.dv, fun x hx => Nat.le_trans (h.bd x hx) (Nat.pow_le_pow_right (by omega) hn)⟩
theorem sq_all {E F : List Int} {d m : Nat} (h : Exq E d m) (hF : Fls F d m) : ∀ i, i ≤ F.length → Exq (sq E F i) d (m + 2 * i * (E.length + F.length)) ∧ tot (sq E F i) = tot E + psum (fun j => F.getD j 0) i ∧ (sq E F i).length ≤ E.length + i
  | 0, _ => ⟨by rw [Nat.mul_zero, Nat.zero_mul, Nat.add_zero]; exact h, by show tot E = tot E + 0; omega, Nat.le_refl _⟩
  | i + 1, hi => by
    obtain ⟨h1, h2, h3⟩ := sq_all h hF i (by omega)
    have hm := getD_mem (L := F) (i := i) (by omega)
    obtain ⟨g1, g2, g3⟩ := h1.grow (hF.rep _ hm) (hF.dv _ hm) (Nat.le_trans (hF.bd _ hm) (Nat.pow_le_pow_right (by omega) (by omega)))
    have e : sq E F (i + 1) = growL (sq E F i) (F.getD i 0) := rfl
    have hps : psum (fun j => F.getD j 0) (i + 1) = psum (fun j => F.getD j 0) i + F.getD i 0 := rfl
    refine ⟨?_, ?_, ?_⟩
    · rw [e]
      refine g1.mono ?_
      have e2 : 2 * (i + 1) * (E.length + F.length) = 2 * i * (E.length + F.length) + 2 * (E.length + F.length) := by
        generalize E.length + F.length = S
        rw [Nat.mul_add, Nat.add_mul]
      omega
    · rw [e, hps]; omega
    · rw [e]; omega
theorem sq_gok {E F : List Int} {d m : Nat} (h : Exq E d m) (hF : Fls F d m) (hl : m + 2 * (F.length + 1) * (E.length + F.length) < 2080) (i : Nat) (hi : i < F.length) : GOk (sq E F i) (F.getD i 0) := by
  obtain ⟨h1, h2, h3⟩ := sq_all h hF i (by omega)
  have hm := getD_mem (L := F) hi
  have e1 : 2 * i * (E.length + F.length) ≤ 2 * F.length * (E.length + F.length) := Nat.mul_le_mul_right _ (by omega)
  have e2 : 2 * (F.length + 1) * (E.length + F.length) = 2 * F.length * (E.length + F.length) + 2 * (E.length + F.length) := by
    generalize E.length + F.length = S
    rw [Nat.mul_add, Nat.add_mul]
  exact h1.gok (hF.rep _ hm) (hF.dv _ hm) (Nat.le_trans (hF.bd _ hm) (Nat.pow_le_pow_right (by omega) (by omega))) (by omega)
theorem Exq.vld {E : List Int} {d m : Nat} (h : Exq E d m) (hd : 60 ≤ d) (hm : m < 2080) : Vld E := by
  refine ⟨fun i hi => h.nz _ (getD_mem hi), fun i hi => Int.dvd_trans (ipow_dvd hd) (h.dv _ (getD_mem hi)), fun i hi => Nat.lt_of_le_of_lt (h.bd _ (getD_mem hi)) (Nat.pow_lt_pow_right (by omega) hm), fun i j hij hj => ?_⟩
  obtain ⟨k, h1, h2⟩ := h.no.at i (by omega)
  refine ⟨k, h1, h2 _ ?_⟩
  have e : E.getD j 0 = (E.drop (i + 1)).getD (j - (i + 1)) 0 := by
    rw [List.getD_eq_getElem?_getD, List.getD_eq_getElem?_getD, List.getElem?_drop, show i + 1 + (j - (i + 1)) = j by omega]
  rw [e]
  exact getD_mem (by rw [List.length_drop]; omega)
theorem last_sign : ∀ (E : List Int), NOR E [] → (∀ x, x ∈ E → x ≠ 0) → E ≠ [] → sgn (tot E) = sgn (E.getD (E.length - 1) 0) ∧ tot E ≠ 0
  | [], _, _, h => absurd rfl h
  | [e], _, hz, _ => by
    have : tot [e] = e := by show e + 0 = e; omega
    rw [this]
    exact ⟨rfl, hz e List.mem_cons_self⟩
  | e :: f :: L, h, hz, _ => by
    obtain ⟨⟨k, h1, h2, -⟩, h4⟩ := h
    obtain ⟨i1, i2⟩ := last_sign (f :: L) h4 (fun x hx => hz x (List.mem_cons_of_mem _ hx)) (by simp)
    have hdv : ∀ (M : List Int), (∀ x, x ∈ M → (2 : Int) ^ k ∣ x) → (2 : Int) ^ k ∣ tot M := fun M => by
      induction M with
      | nil => intro _; exact ⟨0, by rw [Int.mul_zero]; rfl⟩
      | cons x M ih => intro g; exact Int.dvd_add (g x List.mem_cons_self) (ih fun y hy => g y (List.mem_cons_of_mem _ hy))
    have hd := hdv (f :: L) h2
    have e2 : (2 : Int) ^ k = ((2 ^ k : Nat) : Int) := by rw [Int.natCast_pow]; rfl
    rw [e2] at hd
    have hge := Nat.le_of_dvd (by omega) (Int.ofNat_dvd_left.1 hd)
    have e3 : tot (e :: f :: L) = e + tot (f :: L) := rfl
    have e4 : (e :: f :: L).getD ((e :: f :: L).length - 1) 0 = (f :: L).getD ((f :: L).length - 1) 0 := rfl
    rw [e4, ← i1, e3]
    generalize tot (f :: L) = t at *
    refine ⟨?_, by omega⟩
    unfold sgn
    split <;> split <;> (try split) <;> (try split) <;> omega
theorem Exq.sign {E : List Int} {d m : Nat} (h : Exq E d m) : esg E = sgn (tot E) := by
  unfold esg
  split
  · rename_i g; rw [g]; rfl
  · rename_i g; exact (last_sign E h.no h.nz g).1.symm
end
end Go.Proofs.YtllapbkoildfiaaGreatFmt
