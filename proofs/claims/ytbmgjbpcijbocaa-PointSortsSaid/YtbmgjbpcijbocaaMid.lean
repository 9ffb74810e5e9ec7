/- What PointSorts' walk is told: the copy of the list, what Order answers, how far the points are finite, which numbers have been met. -/
import Derived.Test.YtbmgjbpcijbocaaOrdW
namespace Go.Proofs.Ytbmgjbpcijbocaa
open Go.RowKit Go.Sort Go.Lib

/-- The cells of the points, one after the other. -/
def Zc (X Y : Nat → Int) (j : Nat) : Int := if j % 2 = 0 then X (j / 2) else Y (j / 2)
def flat (X Y : Nat → Int) (n : Nat) : List Value := (List.range (n * 2)).map fun j => .int .i64 (Zc X Y j)

theorem flat_length (X Y : Nat → Int) (n : Nat) : (flat X Y n).length = n * 2 := by simp [flat]
theorem flat_get (X Y : Nat → Int) (n j : Nat) (h : j < n * 2) : (flat X Y n)[j]? = some (.int .i64 (Zc X Y j)) := by simp [flat, h]
theorem Zc_even (X Y : Nat → Int) (k : Nat) : Zc X Y (k * 2) = X k := by
  unfold Zc
  rw [if_pos (by omega), show k * 2 / 2 = k by omega]
theorem Zc_odd (X Y : Nat → Int) (k : Nat) : Zc X Y (k * 2 + 1) = Y k := by
  unfold Zc
  rw [if_neg (by omega), show (k * 2 + 1) / 2 = k by omega]
theorem flat_one (X Y : Nat → Int) (n : Nat) : ∀ u ∈ flat X Y n, u.oneCell' = true := by
  intro u hu
  simp only [flat, List.mem_map] at hu
  obtain ⟨j, _, rfl⟩ := hu
  rfl

theorem Pts.cellZ {W : World} {pb po n : Nat} {X Y : Nat → Int} (h : Pts W pb po n X Y) (j : Nat) (hj : j < n * 2) : W.cell? ⟨pb, po + j, none⟩ = some (.int .i64 (Zc X Y j)) := by
  rcases Nat.mod_two_eq_zero_or_one j with h0 | h1
  · obtain ⟨k, rfl⟩ : ∃ k, j = k * 2 := ⟨j / 2, by omega⟩
    rw [Zc_even]; exact h.x k (by omega)
  · obtain ⟨k, rfl⟩ : ∃ k, j = k * 2 + 1 := ⟨j / 2, by omega⟩
    rw [Zc_odd]; exact h.y k (by omega)

theorem Pts.news {W : World} {pb po n : Nat} {X Y : Nat → Int} (h : Pts W pb po n X Y) : ∀ j u, (flat X Y n)[j]? = some u → W.cell? ((⟨pb, po, none⟩ : Addr).add j) = some u := by
  intro j u hu
  have hj : j < n * 2 := by
    have := (List.getElem?_eq_some_iff.1 hu).1
    rwa [flat_length] at this
  rw [flat_get _ _ _ _ hj] at hu
  rw [← hu]
  unfold Addr.add
  split
  · next e => subst e; exact h.cellZ 0 hj
  · exact h.cellZ j hj

theorem Pts.keep {W w' : World} {B pb po n : Nat} {X Y : Nat → Int} (h : Pts W pb po n X Y) (hb : Below B W w') (hp : pb < B) : Pts w' pb po n X Y :=
  ⟨fun k hk => (hb.cell (p := ⟨pb, po + k * 2, none⟩) hp).trans (h.x k hk), fun k hk => (hb.cell (p := ⟨pb, po + k * 2 + 1, none⟩) hp).trans (h.y k hk), h.ix, h.iy⟩

theorem two_new (w : World) (x y : Value) (t : TypeId) : ∀ j u, [x, y][j]? = some u → (w.alloc (.cells #[x, y] t)).cell? ((⟨w.heap.size, 0, none⟩ : Addr).add j) = some u := by
  intro j u hj
  match j, hj with
  | 0, hj => simp at hj; subst hj; simp [Addr.add]
  | 1, hj => simp at hj; subst hj; simp [Addr.add]
  | k + 2, hj => simp at hj

/-- The world from the copy on: the list, its copy and the point behind it, where they lie; nothing of what was there has turned. -/
structure Mid (W : World) (pb po n : Nat) (X Y : Nat → Int) (fb : Nat) (w : World) : Prop where
  l : Pts w pb po n X Y
  f : Pts w fb 0 n X Y
  px : w.cell? ⟨fb, n * 2, none⟩ = some (.int .i64 (-71))
  py : w.cell? ⟨fb, n * 2 + 1, none⟩ = some (.int .i64 71)
  lp : pb < w.heap.size
  lf : fb < w.heap.size
  bel : Below W.heap.size W w

theorem Mid.below {W w w' : World} {pb po n fb : Nat} {X Y : Nat → Int} (h : Mid W pb po n X Y fb w) (hb : Below w.heap.size w w') : Mid W pb po n X Y fb w' :=
  ⟨h.l.keep hb h.lp, h.f.keep hb h.lf, (hb.cell (p := ⟨fb, n * 2, none⟩) h.lf).trans h.px, (hb.cell (p := ⟨fb, n * 2 + 1, none⟩) h.lf).trans h.py,
    Nat.lt_of_lt_of_le h.lp hb.size, Nat.lt_of_lt_of_le h.lf hb.size, h.bel.trans (hb.mono h.bel.size)⟩

/-- What the two appends leave. -/
theorem mid_made {W w0 w1 w2 : World} {pb po n g1 c1 fb fc : Nat} {X Y : Nat → Int} {o : Obj} (hP : Pts W pb po n X Y) (hp : pb < W.heap.size) (hb0 : Below W.heap.size W w0) (hg1 : w0.grownBy w1 none) (hge : W.heap.size ≤ g1)
    (hg2 : (w1.alloc o).grownBy w2 (some g1)) (hown : w2.ownsRow W.heap.size 25 2 (.slice (some ⟨fb, 0, none⟩) (n + 1) fc) (n + 1) (flat X Y n ++ [.int .i64 (-71), .int .i64 71])) (_h : c1 = c1) :
    Mid W pb po n X Y fb w2 := by
  have b1 : Below W.heap.size W w1 := hb0.grown hg1 hb0.size (fun j hj => by cases hj)
  have b2 : Below W.heap.size W w2 := (b1.alloc b1.size o).grown hg2 (by simp; have := b1.size; omega) (fun j hj => by have : g1 = j := Option.some.inj hj; omega)
  have hf : ∀ j, j < n * 2 → w2.cell? ⟨fb, j, none⟩ = some (.int .i64 (Zc X Y j)) := fun j hj => by
    rw [hown.cellAt j (by omega), List.getElem?_append_left (by rw [flat_length]; exact hj), flat_get _ _ _ _ hj]
  refine ⟨hP.keep b2 hp, ⟨fun k hk => ?_, fun k hk => ?_, hP.ix, hP.iy⟩, ?_, ?_, Nat.lt_of_lt_of_le hp b2.size, (hown.lt fb rfl).2, b2⟩
  · rw [Nat.zero_add, hf _ (by omega), Zc_even]
  · rw [Nat.zero_add, hf _ (by omega), Zc_odd]
  · rw [hown.cellAt _ (by omega), List.getElem?_append_right (by rw [flat_length]; exact Nat.le_refl _), flat_length]; simp
  · rw [hown.cellAt _ (by omega), List.getElem?_append_right (by rw [flat_length]; omega), flat_length]; simp

/-- How far the points are finite. -/
def allF (X Y : Nat → Int) (k : Nat) : Bool := (List.range k).all fun i => fin (X i) && fin (Y i)
theorem allF_succ (X Y : Nat → Int) (k : Nat) : (allF X Y k && (fin (X k) && fin (Y k))) = allF X Y (k + 1) := by simp [allF, List.range_succ, List.all_append]
theorem allF_true {X Y : Nat → Int} {k : Nat} (h : allF X Y k = true) : ∀ i, i < k → fin (X i) = true ∧ fin (Y i) = true := by
  intro i hi
  have := List.all_eq_true.1 h i (List.mem_range.2 hi)
  simpa using this
theorem allF_false {X Y : Nat → Int} : ∀ {k : Nat}, allF X Y k = false → ∃ q, q < k ∧ ¬ (fin (X q) = true ∧ fin (Y q) = true) ∧ ∀ i, i < q → fin (X i) = true ∧ fin (Y i) = true
  | 0, h => by simp [allF] at h
  | k + 1, h => by
    cases hk : allF X Y k with
    | false =>
      obtain ⟨q, h1, h2, h3⟩ := allF_false hk
      exact ⟨q, by omega, h2, h3⟩
    | true =>
      rw [← allF_succ, hk] at h
      exact ⟨k, by omega, by simpa using h, allF_true hk⟩

/-- The row that Order hands out. -/
structure Hand (W : World) (n : Nat) (X Y : Nat → Int) (w : World) (g : Nat) (G : Nat → Nat) : Prop where
  ge : W.heap.size ≤ g
  lt : g < w.heap.size
  cell : ∀ i, i < n → w.cell? ⟨g, i, none⟩ = some (.int .i64 (G i : Int)) ∧ w.frozen? ⟨g, i, none⟩ = false
  small : ∀ i, i < n → G i < n
  inj : ∀ i j, i < j → j < n → G i ≠ G j
  srt : ∀ i j, i < j → j < n → ¬ before X Y (G j) (G i)

theorem Hand.below {W w w' : World} {n g : Nat} {X Y : Nat → Int} {G : Nat → Nat} (h : Hand W n X Y w g G) (hb : Below w.heap.size w w') : Hand W n X Y w' g G :=
  ⟨h.ge, Nat.lt_of_lt_of_le h.lt hb.size, fun i hi => ⟨(hb.cell (p := ⟨g, i, none⟩) h.lt).trans (h.cell i hi).1, (hb.frozen (p := ⟨g, i, none⟩) h.lt).trans (h.cell i hi).2⟩, h.small, h.inj, h.srt⟩

/-- What Order answers: the numbers, or the error. -/
def Answer (W : World) (n : Nat) (X Y : Nat → Int) (A : Option Addr) (m : Nat) (er : Int) (w : World) : Prop :=
  (allF X Y n = true ∧ er = 0 ∧ m = n ∧ ∃ g G, A = some ⟨g, 0, none⟩ ∧ Hand W n X Y w g G) ∨ (allF X Y n = false ∧ er = 10 ∧ m = 0)

theorem Answer.below {W w w' : World} {n m : Nat} {X Y : Nat → Int} {A : Option Addr} {er : Int} (h : Answer W n X Y A m er w) (hb : Below w.heap.size w w') : Answer W n X Y A m er w' := by
  rcases h with ⟨h1, h2, h3, g, G, h4, h5⟩ | h
  · exact .inl ⟨h1, h2, h3, g, G, h4, h5.below hb⟩
  · exact .inr h

theorem ord_any (pb po n lc : Nat) (X Y : Nat → Int) (W w : World) (hP : Pts w pb po n X Y) (hn : n ≤ 3000) (h1 : 1 ≤ n) (hW : W.heap.size ≤ w.heap.size) :
    Calls Try.prog 21 #[.slice (some ⟨pb, po, none⟩) n lc] w fun e w' => (∃ A m c er, e = .returned (.tuple #[.slice A m c, .int .i64 er]) ∧ Answer W n X Y A m er w') ∧ Below w.heap.size w w' := by
  cases hf : allF X Y n with
  | true =>
    refine (order_go pb po n lc X Y w hP hn h1 (allF_true hf)).mono fun e w' h => ?_
    obtain ⟨g, c, G, he, hd⟩ := h
    exact ⟨⟨_, _, _, _, he, .inl ⟨hf, rfl, rfl, g, G, rfl, Nat.le_of_lt (Nat.lt_of_le_of_lt hW hd.ge), hd.lt, hd.cell, hd.small, hd.inj, hd.srt⟩⟩, hd.bel⟩
  | false =>
    obtain ⟨q, h2, h3, h4⟩ := allF_false hf
    refine (order_bad pb po n lc X Y w hP hn q h2 h3 h4).mono fun e w' h => ?_
    exact ⟨⟨_, _, _, _, h.1, .inr ⟨hf, rfl, rfl⟩⟩, h.2⟩
end Go.Proofs.Ytbmgjbpcijbocaa
namespace Go.Proofs.Ytbmgjbpcijbocaa
open Go.RowKit Go.Sort Go.Lib

/-- Which numbers have been met among the first k. -/
def seenB (G : Nat → Nat) (k j : Nat) : Bool := (List.range k).any fun i => G i == j
theorem seenB_zero (G : Nat → Nat) (j : Nat) : seenB G 0 j = false := by simp [seenB]
theorem seenB_succ (G : Nat → Nat) (k j : Nat) : seenB G (k + 1) j = (seenB G k j || G k == j) := by simp [seenB, List.range_succ, List.any_append]
theorem seenB_new {G : Nat → Nat} {k n : Nat} (h : ∀ i j, i < j → j < n → G i ≠ G j) (hk : k < n) : seenB G k (G k) = false := by
  cases hs : seenB G k (G k) with
  | false => rfl
  | true =>
    obtain ⟨i, hi, he⟩ := List.any_eq_true.1 hs
    exact absurd (by simpa using he) (h i k (List.mem_range.1 hi) hk)

theorem info4 : (Try.prog.info? 4).map (fun i => (i.zero, i.size, i.bytes)) = some (some (.bool false), 1, 1) := by kernel_rfl

theorem make48 (n : Nat) (hn : n ≤ 3000) (w : World) : (Instr.makeSlice 48 (.int .i64 (n : Int)) (.int .i64 (n : Int))).run Try.prog w = .ok (.slice (some ⟨w.heap.size, 0, none⟩) n n) (w.alloc (.cells (madeCells #[.bool false] n) 4)) := by
  obtain ⟨i0, hi, hz0, hz1, hz2⟩ := info_parts info4
  have h := run_make (P := Try.prog) w 48 4 i0 (.bool false) Try.underlying48 hi hz0 .i64 .i64 n n (by omega) (by omega) (by rw [hz2]; omega) (by omega)
  simp only [Int.toNat_natCast, hz1, Nat.mul_one] at h
  exact h

/-- The world in the loop over the numbers: the list, the numbers, which have been met. -/
structure Lp (W : World) (pb po n : Nat) (X Y : Nat → Int) (g : Nat) (G : Nat → Nat) (sb k : Nat) (w : World) : Prop where
  l : Pts w pb po n X Y
  lp : pb < sb
  H : Hand W n X Y w g G
  lg : g < sb
  seen : ∀ j, j < n → w.cell? ⟨sb, j, none⟩ = some (.bool (seenB G k j)) ∧ w.frozen? ⟨sb, j, none⟩ = false
  ls : sb < w.heap.size
  bel : Below W.heap.size W w

theorem Lp.below {W w w' : World} {pb po n g sb k : Nat} {X Y : Nat → Int} {G : Nat → Nat} (h : Lp W pb po n X Y g G sb k w) (hb : Below w.heap.size w w') : Lp W pb po n X Y g G sb k w' :=
  ⟨h.l.keep hb (Nat.lt_trans h.lp h.ls), h.lp, h.H.below hb, h.lg, fun j hj => ⟨(hb.cell (p := ⟨sb, j, none⟩) h.ls).trans (h.seen j hj).1, (hb.frozen (p := ⟨sb, j, none⟩) h.ls).trans (h.seen j hj).2⟩,
    Nat.lt_of_lt_of_le h.ls hb.size, h.bel.trans (hb.mono h.bel.size)⟩

theorem Lp.start {W w : World} {pb po n fb g : Nat} {X Y : Nat → Int} {G : Nat → Nat} (M : Mid W pb po n X Y fb w) (H : Hand W n X Y w g G) :
    Lp W pb po n X Y g G w.heap.size 0 (w.alloc (.cells (madeCells #[.bool false] n) 4)) := by
  have ha : Below w.heap.size w (w.alloc (.cells (madeCells #[.bool false] n) 4)) := (Below.refl _ _).alloc (Nat.le_refl _) _
  refine ⟨M.l.keep ha M.lp, M.lp, H.below ha, H.lt, fun j hj => ⟨?_, ?_⟩, by simp, M.bel.trans (ha.mono M.bel.size)⟩
  · rw [seenB_zero]
    have : (madeCells #[.bool false] n)[j]? = some (.bool false) := by simp [madeCells, hj, Nat.mod_one]
    go_simp
    try exact this
  · go_simp

theorem Lp.set {W w : World} {pb po n g sb k : Nat} {X Y : Nat → Int} {G : Nat → Nat} (h : Lp W pb po n X Y g G sb k w) (hk : k < n) : Lp W pb po n X Y g G sb (k + 1) (w.setCell ⟨sb, G k, none⟩ (.bool true)) := by
  have hge : W.heap.size ≤ sb := Nat.le_of_lt (Nat.lt_of_le_of_lt h.H.ge h.lg)
  have hs : Below sb w (w.setCell ⟨sb, G k, none⟩ (.bool true)) := (Below.refl sb w).setCell (p := ⟨sb, G k, none⟩) (Nat.le_refl _) _
  have hc := (h.seen (G k) (h.H.small k hk)).1
  refine ⟨h.l.keep hs h.lp, h.lp, ⟨h.H.ge, by simpa [World.setCell] using h.H.lt, fun i hi => ⟨(hs.cell (p := ⟨g, i, none⟩) h.lg).trans (h.H.cell i hi).1, (hs.frozen (p := ⟨g, i, none⟩) h.lg).trans (h.H.cell i hi).2⟩, h.H.small, h.H.inj, h.H.srt⟩, h.lg, fun j hj => ⟨?_, ?_⟩,
    by simpa [World.setCell] using h.ls, h.bel.setCell hge _⟩
  · rw [seenB_succ]
    by_cases e : G k = j
    · subst e
      rw [World.cell?_setCell_same _ _ _ hc]
      simp
    · rw [World.cell?_setCell_other _ _ _ _ (by intro he; injection he with _ h2; omega), (h.seen j hj).1]
      simp [e]
  · rw [World.frozen?_setCell]; exact (h.seen j hj).2

theorem ord_le {W w : World} {n g : Nat} {X Y : Nat → Int} {G : Nat → Nat} (H : Hand W n X Y w g G) (j : Nat) (hj : j + 1 < n) :
    ordI (X (G j)) (Y (G j)) (X (G (j + 1))) (Y (G (j + 1))) < 0 ∨ ordI (X (G j)) (Y (G j)) (X (G (j + 1))) (Y (G (j + 1))) = 0 ∧ G j ≤ G (j + 1) := by
  have hs := H.srt j (j + 1) (by omega) hj
  unfold before at hs
  rcases ordI_cases (X (G j)) (Y (G j)) (X (G (j + 1))) (Y (G (j + 1))) with ⟨h, _⟩ | ⟨h, h1, h2⟩ | ⟨h, h1⟩
  · left; omega
  · right; exact ⟨h, by omega⟩
  · omega
end Go.Proofs.Ytbmgjbpcijbocaa
