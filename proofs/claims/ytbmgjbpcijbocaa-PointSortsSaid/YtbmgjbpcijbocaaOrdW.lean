/- The walk of point.Order. -/
import Derived.Test.YtbmgjbpcijbocaaOrd
import Derived.Laws.OwnMore
import Derived.OwnWalk
import Derived.Deep.AppendLies
namespace Go.Proofs.Ytbmgjbpcijbocaa
open Go.RowKit Go.Sort Go.Lib

theorem info3 : (Try.prog.info? 3).map (fun i => (i.zero, i.size, i.bytes)) = some (some (.int .i64 0), 1, 8) := by kernel_rfl
theorem build58 (a : Option Addr) (n c : Nat) (w : World) : (Instr.build 58 #[(1, .slice a n c)]).run Try.prog w = .ok (.agg #[.slice none 0 0, .slice a n c]) w := run_build w 58 _ _ (by kernel_rfl)

/-- The first k numbers, as cells. -/
def upTo (k : Nat) : List Value := (List.range k).map fun i => .int .i64 ((i : Nat) : Int)

/-- The world on the way through Order's loop: the box of r holds the numbers so far and the points; nothing of what was there has turned. -/
structure OSt (W : World) (pv : Value) (k : Nat) (v : Value) (wr : World) : Prop where
  c0 : wr.cell? ⟨W.heap.size, 0, none⟩ = some v
  c1 : wr.cell? ⟨W.heap.size, 1, none⟩ = some pv
  f0 : wr.frozen? ⟨W.heap.size, 0, none⟩ = false
  own : wr.ownsRow (W.heap.size + 1) 3 1 v k (upTo k)
  lt : W.heap.size < wr.heap.size
  bel : Below W.heap.size W wr

theorem OSt.start (W : World) (pv : Value) : OSt W pv 0 (.slice none 0 0) (W.alloc (.cells #[.slice none 0 0, pv] 58)) :=
  ⟨by go_simp, by go_simp, by go_simp, World.ownsRow_nil _ _ _ _, by simp, (Below.refl _ _).alloc (Nat.le_refl _) _⟩

theorem OSt.below {W : World} {pv : Value} {k : Nat} {v : Value} {wr w' : World} (h : OSt W pv k v wr) (hb : Below wr.heap.size wr w') : OSt W pv k v w' :=
  ⟨(hb.cell (p := ⟨W.heap.size, 0, none⟩) h.lt).trans h.c0, (hb.cell (p := ⟨W.heap.size, 1, none⟩) h.lt).trans h.c1, (hb.frozen (p := ⟨W.heap.size, 0, none⟩) h.lt).trans h.f0,
    h.own.kept ⟨hb.os, hb.tape, hb.output, hb.size, fun k hk _ => hb.block k hk⟩ (row := none) (by cases v.ownBlock <;> simp), Nat.lt_of_lt_of_le h.lt hb.size, h.bel.trans (hb.mono (Nat.le_of_lt h.lt))⟩

theorem upTo_succ (k : Nat) : upTo k ++ [.int .i64 (k : Int)] = upTo (k + 1) := by
  unfold upTo
  rw [List.range_succ, List.map_append]
  rfl

/-- What an append to the numbers leaves, ahead of the store into r's box. -/
theorem OSt.append {W : World} {pv : Value} {k : Nat} {v v' : Value} {w1 w2 : World} {o : Obj} (h : OSt W pv k v w1) (hg : (w1.alloc o).grownBy w2 v.ownBlock) (hown : w2.ownsRow (W.heap.size + 1) 3 1 v' (k + 1) (upTo k ++ [.int .i64 (k : Int)])) :
    w2.cell? ⟨W.heap.size, 0, none⟩ = some v ∧ w2.frozen? ⟨W.heap.size, 0, none⟩ = false ∧ OSt W pv (k + 1) v' (w2.setCell ⟨W.heap.size, 0, none⟩ v') := by
  have hno : ∀ j, v.ownBlock = some j → W.heap.size + 1 ≤ j := fun j hj => (h.own.lt j hj).1
  have hne : some W.heap.size ≠ v.ownBlock := fun e => by have := hno _ e.symm; omega
  have ha : Below w1.heap.size w1 (w1.alloc o) := (Below.refl _ _).alloc (Nat.le_refl _) _
  have g1 := h.below ha
  have hl := h.lt
  have c0 : w2.cell? ⟨W.heap.size, 0, none⟩ = some v := hg.cell g1.c0 hne
  have c1 : w2.cell? ⟨W.heap.size, 1, none⟩ = some pv := hg.cell g1.c1 hne
  have f0 : w2.frozen? ⟨W.heap.size, 0, none⟩ = false := (World.frozen?_of_block (a := ⟨W.heap.size, 0, none⟩) (hg.block W.heap.size g1.lt hne)).trans g1.f0
  have hz := hg.size
  have hz1 := g1.lt
  refine ⟨c0, f0, ⟨World.cell?_setCell_same _ _ _ c0, (World.cell?_setCell_other _ _ _ _ (by intro e; simp at e)).trans c1, by rw [World.frozen?_setCell]; exact f0, ?_, by simp [World.setCell]; omega, ?_⟩⟩
  · rw [← upTo_succ]
    exact ownsRow_setCell_below hown (by show W.heap.size < W.heap.size + 1; omega) _
  · refine (g1.bel.grown hg (Nat.le_of_lt g1.lt) (fun j hj => by have := hno j hj; omega)).setCell (Nat.le_refl _) _

/-- The order in which the numbers are to stand. -/
def before (X Y : Nat → Int) (a b : Nat) : Prop := rankF (X a) < rankF (X b) ∨ rankF (X a) = rankF (X b) ∧ (rankF (Y a) < rankF (Y b) ∨ rankF (Y a) = rankF (Y b) ∧ a < b)

/-- What Order hands out, of points that are all finite. -/
structure Done (W : World) (n : Nat) (X Y : Nat → Int) (w' : World) (g : Nat) (G : Nat → Nat) : Prop where
  ge : W.heap.size < g
  lt : g < w'.heap.size
  cell : ∀ i, i < n → w'.cell? ⟨g, i, none⟩ = some (.int .i64 (G i : Int)) ∧ w'.frozen? ⟨g, i, none⟩ = false
  small : ∀ i, i < n → G i < n
  inj : ∀ i j, i < j → j < n → G i ≠ G j
  srt : ∀ i j, i < j → j < n → ¬ before X Y (G j) (G i)
  bel : Below W.heap.size W w'

/-- The numbers of a row, in their own order. -/
def idn (m : Nat) : Array (Fin (m + 1)) := Array.ofFn fun i => i

theorem idn_size (m : Nat) : (idn m).size = m + 1 := by simp [idn]
theorem idn_get (m i : Nat) (h : i < m + 1) : ((idn m)[i]!).val = i := by
  rw [getElem!_pos (idn m) i (by rw [idn_size]; exact h)]
  simp [idn]

theorem upTo_get (n i : Nat) (h : i < n) : (upTo n)[i]? = some (.int .i64 (i : Int)) := by simp [upTo, h]

/-- What sort.Sort's permutation of the numbers means. -/
theorem perm_facts {m : Nat} {d' : Array (Fin (m + 1))} (hp : PermIn 0 (m + 1) (idn m) d') : d'.size = m + 1 ∧ ∀ i j, i < j → j < m + 1 → (d'[i]!).val ≠ (d'[j]!).val := by
  obtain ⟨h1, _, h3⟩ := hp
  have hs : d'.size = m + 1 := h1.trans (idn_size m)
  refine ⟨hs, fun i j hij hj e => ?_⟩
  rw [Array.extract_eq_self_of_le (by omega), Array.extract_eq_self_of_le (by rw [idn_size]; omega)] at h3
  have hn : d'.toList.Nodup := h3.nodup_iff.mpr (by
    rw [List.nodup_iff_pairwise_ne, List.pairwise_iff_getElem]
    intro i j hi hj hij e
    have hi' := idn_get m i (by have := idn_size m; simp at hi; omega)
    have hj' := idn_get m j (by have := idn_size m; simp at hj; omega)
    rw [getElem!_pos (idn m) i (by simpa using hi)] at hi'
    rw [getElem!_pos (idn m) j (by simpa using hj)] at hj'
    rw [Array.getElem_toList, Array.getElem_toList] at e
    rw [e, hj'] at hi'
    omega)
  have e' : d'[i]! = d'[j]! := Fin.ext e
  rw [getElem!_pos d' i (by omega), getElem!_pos d' j (by omega)] at e'
  rw [List.nodup_iff_pairwise_ne, List.pairwise_iff_getElem] at hn
  exact hn i j (by simp; omega) (by simp; omega) hij (by simpa using e')

theorem st_idn {m g c : Nat} {w : World} {base : Nat} (h : w.ownsRow base 3 1 (.slice (some ⟨g, 0, none⟩) (m + 1) c) (m + 1) (upTo (m + 1))) : St encF w g (idn m) w := by
  refine ⟨grownBy_refl _ _, (h.lt g rfl).2, fun j hj => ?_⟩
  rw [idn_size] at hj
  rw [Nat.zero_add]
  refine ⟨?_, h.frozenAt j⟩
  rw [h.cellAt j (by omega), upTo_get _ _ hj]
  unfold encF
  rw [idn_get m j hj]

/-- What the sorted row holds. -/
structure Srtd (w : World) (n : Nat) (X Y : Nat → Int) (w' : World) (g : Nat) (G : Nat → Nat) : Prop where
  grown : w.grownBy w' (some g)
  cell : ∀ i, i < n → w'.cell? ⟨g, i, none⟩ = some (.int .i64 (G i : Int)) ∧ w'.frozen? ⟨g, i, none⟩ = false
  small : ∀ i, i < n → G i < n
  inj : ∀ i j, i < j → j < n → G i ≠ G j
  srt : ∀ i j, i < j → j < n → ¬ before X Y (G j) (G i)

set_option maxHeartbeats 1000000 in
set_option maxRecDepth 100000 in
theorem sort_one (g c pb po lc : Nat) (X Y : Nat → Int) (w : World) {base : Nat} (hown : w.ownsRow base 3 1 (.slice (some ⟨g, 0, none⟩) 1 c) 1 (upTo 1)) :
    Calls Try.prog 30 #[.iface 58 (rvOf g 1 c pb po lc)] w fun e w' => e = .returned (.tuple #[]) ∧ ∃ G, Srtd w 1 X Y w' g G := by
  have mN := (finds_row g 1 c pb po lc).1
  have eN := enters68
  have hl := fun w => len_any (some ⟨g, 0, none⟩) 1 c w
  have hv : svOf g 1 c = .slice (some ⟨g, 0, none⟩) 1 c := rfl
  go_enter Try.func30, Try.ntmps30
  go_wp2_with (go_at_call 68; refine (hl _).mono ?_; rintro e w' ⟨rfl, rfl⟩)
  refine bodyPost_ret (results_none rfl _ _ _) rfl ?_
  refine ⟨rfl, fun i => i, grownBy_refl _ _, fun i hi => ⟨?_, hown.frozenAt i⟩, fun i hi => hi, fun i j hi hj => by omega, fun i j hi hj => by omega⟩
  rw [hown.cellAt i (by omega), upTo_get _ _ hi]

theorem sort_row (n g c pb po lc : Nat) (X Y : Nat → Int) (w : World) {base : Nat} (h1 : 1 ≤ n) (hP : Pts w pb po n X Y) (hne : pb ≠ g) (hfx : ∀ k, k < n → fin (X k) = true ∧ fin (Y k) = true) (hsz : n < 4611686018427387904)
    (hown : w.ownsRow base 3 1 (.slice (some ⟨g, 0, none⟩) n c) n (upTo n)) :
    Calls Try.prog 30 #[.iface 58 (rvOf g n c pb po lc)] w fun e w' => e = .returned (.tuple #[]) ∧ ∃ G, Srtd w n X Y w' g G := by
  rcases Nat.lt_or_ge 1 n with h2 | h2
  · obtain ⟨m, rfl⟩ : ∃ m, n = m + 1 := ⟨n - 1, by omega⟩
    refine (sort_any (srt_row m g c pb po lc X Y w hP hne hfx hsz) (ltF_swo X Y) (idn m) w (idn_size m) (st_idn hown) h2 (fun w => (len_any _ _ _ w).mono fun _ _ h => h)).mono fun e w' h => ⟨h.1, ?_⟩
    obtain ⟨d', hp, hs, hS⟩ := h.2
    obtain ⟨f1, f2⟩ := perm_facts hp
    refine ⟨fun i => (d'[i]!).val, hS.1, fun i hi => ?_, fun i _ => (d'[i]!).isLt, f2, fun i j hi hj hb => ?_⟩
    · have := hS.2.2 i (by omega)
      rw [Nat.zero_add] at this
      exact this
    · have := hs i j (Nat.zero_le _) hi hj
      have h3 := (ltF_iff X Y d'[j]! d'[i]!).mpr hb
      rw [this] at h3
      exact Bool.false_ne_true h3
  · obtain rfl : n = 1 := by omega
    exact sort_one g c pb po lc X Y w hown

set_option maxHeartbeats 2000000 in
set_option maxRecDepth 100000 in
theorem order_go (pb po n lc : Nat) (X Y : Nat → Int) (W : World) (hP : Pts W pb po n X Y) (hn : n ≤ 3000) (h1 : 1 ≤ n) (hfin : ∀ k, k < n → fin (X k) = true ∧ fin (Y k) = true) :
    Calls Try.prog 21 #[.slice (some ⟨pb, po, none⟩) n lc] W fun e w' => ∃ g c G, e = .returned (.tuple #[.slice (some ⟨g, 0, none⟩) n c, .int .i64 0]) ∧ Done W n X Y w' g G := by
  obtain ⟨i0, hi, hz0, hz1, hz2⟩ := info_parts info3
  have b1 := build58
  have S0 := OSt.start W (.slice (some ⟨pb, po, none⟩) n lc)
  go_enter Try.func21, Try.ntmps21
  go_wp2
  go_loopw [12] (fun vi wr => ∃ (k : Nat) (v : Value), vi = .int .i64 k ∧ k ≤ n ∧ OSt W (.slice (some ⟨pb, po, none⟩) n lc) k v wr) (fun vi _ => n - (intOf vi).toNat)
  case atStart => exact ⟨0, _, rfl, Nat.zero_le _, S0⟩
  case round =>
    clear S0
    obtain ⟨k, v, rfl, hk, S⟩ := hrel
    by_cases hlt : k < n
    · have p1 : wr.cell? ⟨pb, po + k * 2, none⟩ = some (.int .i64 (X k)) := (S.bel.cell (p := ⟨pb, po + k * 2, none⟩) (World.block_lt_of_cell? W _ (hP.x k hlt))).trans (hP.x k hlt)
      have p2 : wr.cell? ⟨pb, po + k * 2 + 1, none⟩ = some (.int .i64 (Y k)) := (S.bel.cell (p := ⟨pb, po + k * 2 + 1, none⟩) (World.block_lt_of_cell? W _ (hP.y k hlt))).trans (hP.y k hlt)
      have hlz : (k : Int) < (n : Int) := by omega
      have hk0 : (0 : Int) ≤ (k : Int) := Int.natCast_nonneg _
      have hc := fun w => check_any (X k) (Y k) w
      rw [show chk (X k) (Y k) = 0 by unfold chk; rw [(hfin k hlt).1, (hfin k hlt).2]; rfl] at hc
      have Sa := S.below ((Below.refl _ _).alloc (Nat.le_refl _) (.cells #[.int .i64 (X k), .int .i64 (Y k)] 25))
      go_wp2_with (first
        | (go_at_call 16; refine (hc _).mono ?_; rintro e w1 ⟨rfl, hb⟩; have S1 := Sa.below hb; have d0 := S1.c0; have d1 := S1.f0)
        | (at_builtin; refine wpList_append_own _ rfl _ _ 56 rfl (W.heap.size + 1) 3 i0 (.int .i64 0) 1 8 Try.underlying56 hi hz0 hz1 hz2 rfl (by decide) _ _ _ rfl (S1.own.alloc _) ⟨w1.heap.size, 0, none⟩ 1 1 [.int .i64 k] rfl rfl (cell_one_new _ _ _) ?c2 ?c3 ?c4 ?c5 ?_))
      case c2 => intro u hu; simp only [List.mem_singleton] at hu; subst hu; rfl
      case c3 => unfold maxLen; omega
      case c4 => omega
      case c5 => have := S1.lt; simp; omega
      intro v' w2 hown2 hg _
      clear S Sa d0 d1
      obtain ⟨gb, gc, rfl, _, _⟩ := hown2.form (by omega)
      obtain ⟨d0, d1, S2⟩ := S1.append hg hown2
      go_wp2
      go_roundw
      case rel => exact ⟨k + 1, _, by go_num, by omega, S2⟩
      case measure => show n - ((k : Int) + 1).toNat < n - (k : Int).toNat; omega
    · have hkn : k = n := by omega
      subst hkn
      obtain ⟨gb, gc, rfl, hge, hgl⟩ := S.own.form (by omega)
      have d0 := S.c0
      have d1 := S.c1
      have hpl : pb < W.heap.size := World.block_lt_of_cell? W _ (hP.x 0 (by omega))
      have hPr : Pts wr pb po k X Y := ⟨fun i hi => (S.bel.cell (p := ⟨pb, po + i * 2, none⟩) hpl).trans (hP.x i hi), fun i hi => (S.bel.cell (p := ⟨pb, po + i * 2 + 1, none⟩) hpl).trans (hP.y i hi), hP.ix, hP.iy⟩
      have hne : pb ≠ gb := by omega
      go_wp2_with (go_at_call 30; refine (sort_row k gb gc pb po lc X Y wr h1 hPr hne hfin (by omega) S.own).mono ?_; rintro e w2 ⟨rfl, G, hs⟩; have d2 := hs.grown.cell d0 (fun e => by have : W.heap.size = gb := Option.some.inj e; omega))
      go_ret2
      refine ⟨gb, gc, G, rfl, by omega, Nat.lt_of_lt_of_le hgl hs.grown.size, hs.cell, hs.small, hs.inj, hs.srt, S.bel.grown hs.grown (Nat.le_of_lt S.lt) (fun j hj => by have : gb = j := Option.some.inj hj; omega)⟩

set_option maxHeartbeats 2000000 in
set_option maxRecDepth 100000 in
theorem order_bad (pb po n lc : Nat) (X Y : Nat → Int) (W : World) (hP : Pts W pb po n X Y) (hn : n ≤ 3000) (q : Nat) (hq : q < n) (hbad : ¬ (fin (X q) = true ∧ fin (Y q) = true)) (hbefore : ∀ k, k < q → fin (X k) = true ∧ fin (Y k) = true) :
    Calls Try.prog 21 #[.slice (some ⟨pb, po, none⟩) n lc] W fun e w' => e = .returned (.tuple #[.slice none 0 0, .int .i64 10]) ∧ Below W.heap.size W w' := by
  obtain ⟨i0, hi, hz0, hz1, hz2⟩ := info_parts info3
  have b1 := build58
  have S0 := OSt.start W (.slice (some ⟨pb, po, none⟩) n lc)
  go_enter Try.func21, Try.ntmps21
  go_wp2
  go_loopw [12] (fun vi wr => ∃ (k : Nat) (v : Value), vi = .int .i64 k ∧ k ≤ q ∧ OSt W (.slice (some ⟨pb, po, none⟩) n lc) k v wr) (fun vi _ => n - (intOf vi).toNat)
  case atStart => exact ⟨0, _, rfl, Nat.zero_le _, S0⟩
  case round =>
    clear S0
    obtain ⟨k, v, rfl, hk, S⟩ := hrel
    have hlt : k < n := by omega
    have p1 : wr.cell? ⟨pb, po + k * 2, none⟩ = some (.int .i64 (X k)) := (S.bel.cell (p := ⟨pb, po + k * 2, none⟩) (World.block_lt_of_cell? W _ (hP.x k hlt))).trans (hP.x k hlt)
    have p2 : wr.cell? ⟨pb, po + k * 2 + 1, none⟩ = some (.int .i64 (Y k)) := (S.bel.cell (p := ⟨pb, po + k * 2 + 1, none⟩) (World.block_lt_of_cell? W _ (hP.y k hlt))).trans (hP.y k hlt)
    have hlz : (k : Int) < (n : Int) := by omega
    have hk0 : (0 : Int) ≤ (k : Int) := Int.natCast_nonneg _
    have hc := fun w => check_any (X k) (Y k) w
    have Sa := S.below ((Below.refl _ _).alloc (Nat.le_refl _) (.cells #[.int .i64 (X k), .int .i64 (Y k)] 25))
    by_cases hqk : k < q
    · rw [show chk (X k) (Y k) = 0 by unfold chk; rw [(hbefore k hqk).1, (hbefore k hqk).2]; rfl] at hc
      go_wp2_with (first
        | (go_at_call 16; refine (hc _).mono ?_; rintro e w1 ⟨rfl, hb⟩; have S1 := Sa.below hb; have d0 := S1.c0; have d1 := S1.f0)
        | (at_builtin; refine wpList_append_own _ rfl _ _ 56 rfl (W.heap.size + 1) 3 i0 (.int .i64 0) 1 8 Try.underlying56 hi hz0 hz1 hz2 rfl (by decide) _ _ _ rfl (S1.own.alloc _) ⟨w1.heap.size, 0, none⟩ 1 1 [.int .i64 k] rfl rfl (cell_one_new _ _ _) ?c2 ?c3 ?c4 ?c5 ?_))
      case c2 => intro u hu; simp only [List.mem_singleton] at hu; subst hu; rfl
      case c3 => unfold maxLen; omega
      case c4 => omega
      case c5 => have := S1.lt; simp; omega
      intro v' w2 hown2 hg _
      clear S Sa d0 d1
      obtain ⟨gb, gc, rfl, _, _⟩ := hown2.form (by omega)
      obtain ⟨d0, d1, S2⟩ := S1.append hg hown2
      go_wp2
      go_roundw
      case rel => exact ⟨k + 1, _, by go_num, by omega, S2⟩
      case measure => show n - ((k : Int) + 1).toNat < n - (k : Int).toNat; omega
    · obtain rfl : k = q := by omega
      rw [show chk (X k) (Y k) = 10 by unfold chk; rw [if_neg (by simpa using hbad)]] at hc
      go_wp2_with (go_at_call 16; refine (hc _).mono ?_; rintro e w1 ⟨rfl, hb⟩; have S1 := Sa.below hb)
      go_ret2
      exact ⟨rfl, S1.bel⟩

set_option maxHeartbeats 2000000 in
set_option maxRecDepth 100000 in
theorem order_nil (a : Option Addr) (lc : Nat) (W : World) :
    Calls Try.prog 21 #[.slice a 0 lc] W fun e w' => e = .returned (.tuple #[.slice none 0 0, .int .i64 0]) ∧ Below W.heap.size W w' := by
  have b1 := build58
  have hlen := fun w => len_any none 0 0 w
  have mN : ∀ w, Sem.run Try.prog (method 206 58 (.agg #[.slice none 0 0, .slice a 0 lc]) "Len") w = .ok (68, .slice none 0 0) w := fun _ => by kernel_rfl
  have eN := enters68
  have hs : ∀ w, Calls Try.prog 30 #[.iface 58 (.agg #[.slice none 0 0, .slice a 0 lc])] w fun e w' => e = .returned (.tuple #[]) ∧ w = w' := by
    intro w
    go_enter Try.func30, Try.ntmps30
    go_wp2_with (go_at_call 68; refine (hlen _).mono ?_; rintro e w' ⟨rfl, rfl⟩)
    refine bodyPost_ret (results_none rfl _ _ _) rfl ?_
    exact ⟨rfl, rfl⟩
  go_enter Try.func21, Try.ntmps21
  go_wp2_with (go_at_call 30; refine (hs _).mono ?_; rintro e w' ⟨rfl, rfl⟩)
  go_loopw [12] (fun vi wr => vi = .int .i64 0 ∧ wr = W.alloc (.cells #[.slice none 0 0, .slice a 0 lc] 58)) (fun vi _ => 0)
  case atStart => exact ⟨rfl, rfl⟩
  case round =>
    obtain ⟨rfl, rfl⟩ := hrel
    go_wp2_with (go_at_call 30; refine (hs _).mono ?_; rintro e w' ⟨rfl, rfl⟩)
    go_ret2
    exact ⟨rfl, (Below.refl _ _).alloc (Nat.le_refl _) _⟩

end Go.Proofs.Ytbmgjbpcijbocaa
