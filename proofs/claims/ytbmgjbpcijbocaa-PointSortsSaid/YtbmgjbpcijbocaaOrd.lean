/- The row of point.Order as something to be sorted: its order is a strict weak one, and its methods do what sort.Sort leans on. -/
import Derived.Test.YtbmgjbpcijbocaaRow
namespace Go.Proofs.Ytbmgjbpcijbocaa
open Go.RowKit Go.Sort

theorem ordI_cases (ax ay bx bY : Int) : (ordI ax ay bx bY = -1 ∧ (rankF ax < rankF bx ∨ rankF ax = rankF bx ∧ rankF ay < rankF bY)) ∨ (ordI ax ay bx bY = 0 ∧ rankF ax = rankF bx ∧ rankF ay = rankF bY) ∨ (ordI ax ay bx bY = 1 ∧ (rankF bx < rankF ax ∨ rankF ax = rankF bx ∧ rankF bY < rankF ay)) := by
  unfold ordI cmpI
  rcases Int.lt_trichotomy (rankF ax) (rankF bx) with h | h | h
  · left; rw [if_pos h, if_neg (by omega)]; exact ⟨rfl, Or.inl h⟩
  · rw [if_neg (by omega : ¬ rankF ax < rankF bx), if_neg (by omega : ¬ rankF bx < rankF ax), if_pos rfl]
    rcases Int.lt_trichotomy (rankF ay) (rankF bY) with g | g | g
    · left; rw [if_pos g]; exact ⟨rfl, Or.inr ⟨h, g⟩⟩
    · right; left; rw [if_neg (by omega), if_neg (by omega)]; exact ⟨rfl, h, g⟩
    · right; right; rw [if_neg (by omega), if_pos g]; exact ⟨rfl, Or.inr ⟨h, g⟩⟩
  · right; right; rw [if_neg (by omega : ¬ rankF ax < rankF bx), if_pos h, if_neg (by omega)]; exact ⟨rfl, Or.inl h⟩

/-- The order of the row's numbers: by the points' order, and, of one place, rising. -/
def ltF {m : Nat} (X Y : Nat → Int) (k l : Fin (m + 1)) : Bool := lessB (ordI (X k) (Y k) (X l) (Y l)) k l

theorem ltF_iff {m : Nat} (X Y : Nat → Int) (k l : Fin (m + 1)) : ltF X Y k l = true ↔ rankF (X k) < rankF (X l) ∨ rankF (X k) = rankF (X l) ∧ (rankF (Y k) < rankF (Y l) ∨ rankF (Y k) = rankF (Y l) ∧ k.val < l.val) := by
  unfold ltF lessB
  rcases ordI_cases (X k) (Y k) (X l) (Y l) with ⟨h, g⟩ | ⟨h, g1, g2⟩ | ⟨h, g⟩
  · rw [h]; simp; omega
  · rw [h]; simp; omega
  · rw [h]; simp; omega

theorem ltF_swo {m : Nat} (X Y : Nat → Int) : SWO (ltF (m := m) X Y) where
  irrefl x := by
    cases h : ltF X Y x x with
    | false => rfl
    | true => rw [ltF_iff] at h; omega
  trans x y z h1 h2 := by rw [ltF_iff] at h1 h2 ⊢; omega
  ntrans x y z h1 h2 := by
    cases h : ltF X Y x z with
    | false => rfl
    | true =>
      have g1 : ¬ ltF X Y x y = true := by rw [h1]; exact Bool.false_ne_true
      have g2 : ¬ ltF X Y y z = true := by rw [h2]; exact Bool.false_ne_true
      rw [ltF_iff] at h g1 g2
      omega

/-- How a number stands in the row. -/
def encF {m : Nat} (k : Fin (m + 1)) : Value := .int .i64 (k.val : Int)

/-- The points of a list, where they lie: n of them, finite. -/
structure Pts (W : World) (pb po n : Nat) (X Y : Nat → Int) : Prop where
  x : ∀ k, k < n → W.cell? ⟨pb, po + k * 2, none⟩ = some (.int .i64 (X k))
  y : ∀ k, k < n → W.cell? ⟨pb, po + k * 2 + 1, none⟩ = some (.int .i64 (Y k))
  ix : ∀ k, k < n → In64 (X k)
  iy : ∀ k, k < n → In64 (Y k)

def rvOf (blk n c pb po lc : Nat) : Value := .agg #[.slice (some ⟨blk, 0, none⟩) n c, .slice (some ⟨pb, po, none⟩) n lc]
def svOf (blk n c : Nat) : Value := .slice (some ⟨blk, 0, none⟩) n c

theorem finds_row (blk n c pb po lc : Nat) : Finds (rvOf blk n c pb po lc) (svOf blk n c) :=
  ⟨fun _ => by kernel_rfl, fun _ => by kernel_rfl, fun _ => by kernel_rfl⟩

theorem srt_row (m blk c pb po lc : Nat) (X Y : Nat → Int) (W0 : World) (hP : Pts W0 pb po (m + 1) X Y) (hne : pb ≠ blk) (hfx : ∀ k, k < m + 1 → fin (X k) = true ∧ fin (Y k) = true) (hsz : m + 1 < 4611686018427387904) :
    Srt (α := Fin (m + 1)) encF (ltF X Y) W0 blk (m + 1) (rvOf blk (m + 1) c pb po lc) (svOf blk (m + 1) c) where
  finds := finds_row ..
  small := hsz
  less := fun W d hS hd i j hi hj => by
    have hl := World.block_lt_of_cell? W0 _ (hP.x 0 (by omega))
    have hb := hS.1.block pb hl (by intro e; exact hne (Option.some.inj e))
    have px : ∀ k, k < m + 1 → W.cell? ⟨pb, po + k * 2, none⟩ = some (.int .i64 (X k)) := fun k hk => (World.cell?_of_block (a := ⟨pb, po + k * 2, none⟩) hb).trans (hP.x k hk)
    have py : ∀ k, k < m + 1 → W.cell? ⟨pb, po + k * 2 + 1, none⟩ = some (.int .i64 (Y k)) := fun k hk => (World.cell?_of_block (a := ⟨pb, po + k * 2 + 1, none⟩) hb).trans (hP.y k hk)
    have ci : W.cell? ⟨blk, i, none⟩ = some (.int .i64 ((d[i]!).val : Int)) := by have := (hS.2.2 i (by omega)).1; rw [Nat.zero_add] at this; exact this
    have cj : W.cell? ⟨blk, j, none⟩ = some (.int .i64 ((d[j]!).val : Int)) := by have := (hS.2.2 j (by omega)).1; rw [Nat.zero_add] at this; exact this
    have hA := (d[i]!).isLt
    have hB := (d[j]!).isLt
    have e : lessB (ordW (X (d[i]!).val) (Y (d[i]!).val) (X (d[j]!).val) (Y (d[j]!).val)) (d[i]!).val (d[j]!).val = ltF X Y d[i]! d[j]! := by
      rw [ordW_eq _ _ _ _ (hP.ix _ hA) (hP.iy _ hA) (hP.ix _ hB) (hP.iy _ hB) (hfx _ hA).1 (hfx _ hA).2 (hfx _ hB).1 (hfx _ hB).2]; rfl
    rw [← e]
    exact less_core blk pb po (m + 1) c lc _ _ i j _ _ _ _ W hi hj hsz hA hB ci cj (px _ hA) (py _ hA) (px _ hB) (py _ hB)
  swap := fun W d hH hd i j hi hj => by
    have ci := hH i (by omega)
    have cj := hH j (by omega)
    rw [Nat.zero_add] at ci cj
    refine (swap_any blk (m + 1) c W _ _ i j hi hj hsz ci.1 cj.1 ci.2 cj.2).mono fun e w' ⟨he, q, hw⟩ => ?_
    have key : (W.setCell ⟨blk, i, none⟩ (encF d[j]!)).setCell ⟨blk, j, none⟩ (encF d[i]!) = putRow encF W blk 0 (swp d i j) := by
      have := putRow_swp encF W blk 0 d i j (by omega) (by omega)
      rw [putRow_self _ _ _ _ _ hH, Nat.zero_add, Nat.zero_add] at this
      exact this
    refine ⟨he, ?_, ?_⟩
    · rw [hw]
      exact ⟨rfl, rfl, rfl, by simp [World.setCell], fun k _ hr => by
        have hk : k ≠ blk := fun h => hr (by rw [h])
        show ((W.setCell _ _).setCell _ _).heap[k]? = _
        rw [RowKit.Below.heap_setCell _ _ _ _ hk, RowKit.Below.heap_setCell _ _ _ _ hk]⟩
    · rw [hw]
      have h := holds_putRow encF W blk 0 d (swp d i j) hH (size_swp d i j)
      rw [← key] at h
      exact fun t ht => h t ht
end Go.Proofs.Ytbmgjbpcijbocaa
