/- The walk of PointSorts. -/
import Derived.Test.YtbmgjbpcijbocaaMid
import Derived.Test.YtbmgjbpcijbocaaRef
import Derived.BigQuiet
namespace Go.Proofs.Ytbmgjbpcijbocaa.pointSorts
open Go.RowKit Go.Sort Go.Lib

theorem info25 : (Try.prog.info? 25).map (fun i => (i.zero, i.size, i.bytes)) = some (some (.agg #[.int .i64 0, .int .i64 0]), 2, 16) := by kernel_rfl

theorem eq25 (a b c d : Int) (w : World) : (Op.equalIn 10000 25 (.agg #[.int .i64 a, .int .i64 b]) (.agg #[.int .i64 c, .int .i64 d])).run Try.prog w = .ok (a == c && b == d) w := by
  have u3 := Try.underlying3
  have hS : Try.prog.underlying 25 = some (.struct (Try.prog.fieldsOf 25)) := by kernel_rfl
  have hp : Try.prog.stoodInHeld 25 = false := by kernel_rfl
  rw [show (10000 : Nat) = 9999 + 1 from rfl, run_equalIn_agg w 9999 25 _ _ hS hp]
  simp only [Program.fieldsOf, Try.underlying25]
  go_simp
  by_cases h1 : a = c <;> by_cases h2 : b = d <;> simp [h1, h2]

theorem own_cap {w : World} {base g n c : Nat} {e : TypeId} {size : Nat} {xs : List Value} (h : w.ownsRow base e size (.slice (some ⟨g, 0, none⟩) n c) n xs) : n ≤ c := by
  rcases h.2 with ⟨h1, _⟩ | ⟨g', c', cur, h1, _, _, h2, _⟩
  · cases h1
  · injection h1 with _ _ h3
    omega

theorem held29 {W w w' : World} {pb po m g sb k a1 a2 a3 a4 a5 : Nat} {X Y : Nat → Int} {G : Nat → Nat} {v1 v2 v3 v4 v5 : Value} (h1 : w.cell? ⟨g, a1, none⟩ = some v1) (h2 : w.cell? ⟨pb, a2, none⟩ = some v2) (h3 : w.cell? ⟨pb, a3, none⟩ = some v3)
    (h4 : w.cell? ⟨pb, a4, none⟩ = some v4) (h5 : w.cell? ⟨pb, a5, none⟩ = some v5) (h6 : Lp W pb po m X Y g G sb k w) (hb : Below w.heap.size w w') :
    w'.cell? ⟨g, a1, none⟩ = some v1 ∧ w'.cell? ⟨pb, a2, none⟩ = some v2 ∧ w'.cell? ⟨pb, a3, none⟩ = some v3 ∧ w'.cell? ⟨pb, a4, none⟩ = some v4 ∧ w'.cell? ⟨pb, a5, none⟩ = some v5 ∧ Lp W pb po m X Y g G sb k w' := by
  have c := (bcell hb).1
  have l1 := Nat.lt_trans h6.lg h6.ls
  have l2 := Nat.lt_trans h6.lp h6.ls
  exact ⟨(c _ _ l1).trans h1, (c _ _ l2).trans h2, (c _ _ l2).trans h3, (c _ _ l2).trans h4, (c _ _ l2).trans h5, h6.below hb⟩

/-- The world while the answer is written over. -/
structure Frow (W : World) (m g : Nat) (w : World) : Prop where
  ge : W.heap.size ≤ g
  cell : ∀ j, j < m → (∃ v, w.cell? ⟨g, j, none⟩ = some v) ∧ w.frozen? ⟨g, j, none⟩ = false
  bel : Below W.heap.size W w

theorem Frow.start {W w : World} {pb po m g sb k : Nat} {X Y : Nat → Int} {G : Nat → Nat} (L : Lp W pb po m X Y g G sb k w) : Frow W m g w :=
  ⟨L.H.ge, fun j hj => ⟨⟨_, (L.H.cell j hj).1⟩, (L.H.cell j hj).2⟩, L.bel⟩

theorem Frow.set {W w : World} {m g k : Nat} (h : Frow W m g w) (hk : k < m) (u : Value) : Frow W m g (w.setCell ⟨g, k, none⟩ u) := by
  refine ⟨h.ge, fun j hj => ⟨?_, by rw [World.frozen?_setCell]; exact (h.cell j hj).2⟩, h.bel.setCell h.ge _⟩
  obtain ⟨v, hv⟩ := (h.cell k hk).1
  by_cases e : k = j
  · subst e
    exact ⟨u, World.cell?_setCell_same _ _ _ hv⟩
  · obtain ⟨v', hv'⟩ := (h.cell j hj).1
    exact ⟨v', (World.cell?_setCell_other _ _ _ _ (by intro he; injection he with _ h2; omega)).trans hv'⟩

set_option maxHeartbeats 4000000 in
set_option maxRecDepth 100000 in
theorem walk_some (pb po n lc : Nat) (X Y : Nat → Int) (W : World) (hP : Pts W pb po n X Y) (hp : pb < W.heap.size) (hn : n ≤ 3000) (h1 : 1 ≤ n) :
    Calls Try.prog 7 #[.slice (some ⟨pb, po, none⟩) n lc] W (Ends W (.bool true)) := by
  obtain ⟨i0, hi, hz0, hz1, hz2⟩ := info_parts info25
  have ha := alive_any
  have q1 := eq25
  have b1 := build25
  have hnz : ¬ ((n : Int) > 3000) := by omega
  go_enter Try.func7, Try.ntmps7
  go_wp2_with (first
    | (go_at_call 8; refine (ha _).mono ?_; rintro e w1 ⟨rfl, hb⟩; have hP1 := hP.keep hb hp)
    | (at_builtin; refine wpList_append_own _ rfl _ _ 44 rfl W.heap.size 25 i0 _ 2 16 Try.underlying44 hi hz0 hz1 hz2 rfl (by decide) (.slice none 0 0) 0 [] rfl (World.ownsRow_nil _ _ _ _) ⟨pb, po, none⟩ n lc (flat X Y n) rfl (flat_length X Y n) hP1.news (flat_one X Y n) ?c3 ?c4 ?c5 ?_))
  case c3 => unfold maxLen; omega
  case c4 => omega
  case c5 => exact hb.size
  intro v' w2 hown hg _
  obtain ⟨g1, c1, rfl, hge1, hgl1⟩ := hown.form (by omega)
  go_wp2_with (at_builtin; refine wpList_append_own _ rfl _ _ 44 rfl W.heap.size 25 i0 _ 2 16 Try.underlying44 hi hz0 hz1 hz2 rfl (by decide) _ n _ rfl (hown.alloc _) ⟨w2.heap.size, 0, none⟩ 1 1 [.int .i64 (-71), .int .i64 71] rfl rfl (two_new _ _ _ _) ?c2 ?c3 ?c4 ?c5 ?_)
  case c2 => intro u hu; simp at hu; rcases hu with rfl | rfl <;> rfl
  case c3 => unfold maxLen; omega
  case c4 => omega
  case c5 => simp; omega
  intro v' w3 hown3 hg3 _
  obtain ⟨fb, fc, rfl, hge3, hgl3⟩ := hown3.form (by omega)
  have M := mid_made (c1 := c1) hP hp hb hg hge1 hg3 hown3 rfl
  have hM := M.lf
  have hcap := own_cap hown3
  have hcz : (n : Int) ≤ (fc : Int) := by omega
  have hc0 : ¬ fc = 0 := by omega
  go_wp2_with (first
    | (go_at_call 21; refine (ord_any fb 0 n fc X Y W _ M.f hn h1 M.bel.size).mono ?_; rintro e w4 ⟨⟨A, m, c, er, rfl, hA⟩, hb4⟩; (have M4 := M.below hb4)))
  clear hown hown3 hg hg3 hgl1 hge1 hgl3 hP1 hb M
  go_loopw [7, 8] (fun vo vi wr => ∃ (k : Nat), vi = .int .i64 k ∧ vo = .bool (allF X Y k) ∧ k ≤ n ∧ Mid W pb po n X Y fb wr ∧ Answer W n X Y A m er wr) (fun vo vi _ => n - (intOf vi).toNat)
  case atStart => exact ⟨0, rfl, rfl, Nat.zero_le _, M4, hA⟩
  case round =>
    clear M4 hA hb4
    obtain ⟨k, rfl, rfl, hk, M, hA⟩ := hrel
    by_cases hlt : k < n
    · have p1 := M.l.x k hlt
      have p2 := M.l.y k hlt
      have p3 := M.f.x k hlt
      have p4 := M.f.y k hlt
      rw [Nat.zero_add] at p3 p4
      have hlz : (k : Int) < (n : Int) := by omega
      have hlz1 : (k : Int) < (n : Int) + 1 := by omega
      have hk0 : (0 : Int) ≤ (k : Int) := Int.natCast_nonneg _
      have hc := fun w => finite_ref (X k) (Y k) w (hP.ix k hlt).1 (hP.ix k hlt).2 (hP.iy k hlt).1 (hP.iy k hlt).2
      cases ho : allF X Y k <;>
        (go_wp2
         go_quiet (fail)
         have M' := M.below (below_drewN (Below.refl wr.heap.size wr) nq)
         have hA' := hA.below (below_drewN (Below.refl wr.heap.size wr) nq)
         go_wp2_with (go_at_call 14; refine (hc _).mono ?_; rintro e w5 ⟨rfl, hb⟩; (have M5 := M'.below hb); have hA5 := hA'.below hb)
         go_roundw
         case rel => exact ⟨k + 1, by go_num, by rw [← allF_succ, ho]; simp, by omega, M5, hA5⟩
         case measure => show n - ((k : Int) + 1).toNat < n - (k : Int).toNat; omega)
    · obtain rfl : k = n := by omega
      have p1 := M.px
      have p2 := M.py
      have hk1 : (k : Int) < (k : Int) + 1 := by omega
      have hk0 : (0 : Int) ≤ (k : Int) := Int.natCast_nonneg _
      cases hf : allF X Y k with
      | false =>
        rcases hA with ⟨h, _⟩ | ⟨_, rfl, rfl⟩
        · rw [hf] at h; cases h
        · go_wp2_with (go_at_call 12; refine (num_any _ _).mono ?_; rintro e w' ⟨rfl, rfl⟩)
          go_ret
          exact ⟨rfl, M.bel⟩
      | true =>
        rcases hA with ⟨_, rfl, rfl, g, G, rfl, H⟩ | ⟨h, _⟩
        · have hmk := make48 m hn wr
          have L0 := Lp.start M H
          go_wp2_with (first
            | (go_at_call 12; refine (num_any _ _).mono ?_; rintro e w' ⟨rfl, rfl⟩))
          generalize wr.alloc (.cells (madeCells #[.bool false] m) 4) = W5 at *
          generalize wr.heap.size = sb at *
          go_loopw [11] (fun vi ww => ∃ (k : Nat), vi = .int .i64 k ∧ k ≤ m ∧ Lp W pb po m X Y g G sb k ww) (fun vi _ => m - (intOf vi).toNat)
          case atStart => exact ⟨0, rfl, Nat.zero_le _, L0⟩
          case round =>
            clear L0 hmk
            obtain ⟨k, rfl, hk, L⟩ := hrel
            by_cases hlt : k < m
            · have p0 := (L.H.cell k hlt).1
              have s0 := (L.seen (G k) (L.H.small k hlt)).1
              rw [seenB_new L.H.inj hlt] at s0
              have s1 := (L.seen (G k) (L.H.small k hlt)).2
              have hG := L.H.small k hlt
              have hg0 : (0 : Int) ≤ (G k : Int) := Int.natCast_nonneg _
              have hg1 : (G k : Int) < (m : Int) := by omega
              have hgn : ¬ (G k : Int) < 0 := by omega
              have hgm : ¬ (m : Int) ≤ (G k : Int) := by omega
              have L2 := L.set hlt
              cases k with
              | zero =>
                have hm0 : (0 : Int) < (m : Int) := by omega
                go_wp2
                go_roundw
                case rel => exact ⟨1, by go_num, by omega, L2⟩
                case measure => show m - ((0 : Int) + 1).toNat < m - (0 : Int).toNat; omega
              | succ j =>
                have hk0 : (0 : Int) ≤ (j : Int) := Int.natCast_nonneg _
                have hk1 : (j : Int) + 1 < (m : Int) := by omega
                have hk2 : (j : Int) < (m : Int) := by omega
                have hk3 : ¬ (j : Int) + 1 = 0 := by omega
                have hk4 : (0 : Int) ≤ (j : Int) + 1 := by omega
                have hw1 : IntKind.i64.wrap ((j : Int) + 1 - 1) = (j : Int) := by simp [IntKind.wrap, IntKind.bits, IntKind.signed]; omega
                have hw2 : IntKind.i64.wrap (j : Int) = (j : Int) := by simp [IntKind.wrap, IntKind.bits, IntKind.signed]; omega
                go_wp2
                clear p0 s0 s1 L
                generalize wr.setCell ⟨sb, G (j + 1), none⟩ (.bool true) = wx at *
                have hJ := L2.H.small j (by omega)
                have hj0 : (0 : Int) ≤ (G j : Int) := Int.natCast_nonneg _
                have hj1 : (G j : Int) < (m : Int) := by omega
                have t0 := (L2.H.cell j (by omega)).1
                have t1 := L2.l.x (G j) hJ
                have t2 := L2.l.y (G j) hJ
                have t3 := L2.l.x (G (j + 1)) hG
                have t4 := L2.l.y (G (j + 1)) hG
                have hr := fun w => refcmp_any (X (G j)) (Y (G j)) (X (G (j + 1))) (Y (G (j + 1))) w (hP.ix _ hJ) (hP.iy _ hJ) (hP.ix _ hG) (hP.iy _ hG)
                have ho := ord_le L2.H j hlt
                generalize ordI (X (G j)) (Y (G j)) (X (G (j + 1))) (Y (G (j + 1))) = o at *
                have L2d := L2.below (Below.refl wx.heap.size wx).drew
                go_region_held3 (fun w' => w'.cell? ⟨g, j, none⟩ = some (.int .i64 (G j : Int)) ∧ w'.cell? ⟨pb, po + G j * 2, none⟩ = some (.int .i64 (X (G j))) ∧ w'.cell? ⟨pb, po + G j * 2 + 1, none⟩ = some (.int .i64 (Y (G j))) ∧
                    w'.cell? ⟨pb, po + G (j + 1) * 2, none⟩ = some (.int .i64 (X (G (j + 1)))) ∧ w'.cell? ⟨pb, po + G (j + 1) * 2 + 1, none⟩ = some (.int .i64 (Y (G (j + 1)))) ∧ Lp W pb po m X Y g G sb (j + 1 + 1) w')
                  (first | go_keep | (go_split_ands; exact held29 ‹_› ‹_› ‹_› ‹_› ‹_› ‹_› hb)) ((go_at_call 15; refine (hr _).mono ?_; rintro e w6 ⟨rfl, hb⟩))
                go_split_ands
                clear L2 L2d t0 t1 t2 t3 t4
                rcases ho with ho | ⟨ho, hle⟩
                · have ho1 : ¬ 0 < o := by omega
                  have ho2 : ¬ o = 0 := by omega
                  go_wp2
                  go_roundw
                  case rel => exact ⟨j + 1 + 1, by go_num, by omega, ‹_›⟩
                  case measure => show m - ((j : Int) + 1 + 1).toNat < m - ((j : Int) + 1).toNat; omega
                · subst ho
                  have hle' : ¬ (G (j + 1) : Int) < (G j : Int) := by omega
                  go_wp2
                  go_roundw
                  case rel => exact ⟨j + 1 + 1, by go_num, by omega, ‹_›⟩
                  case measure => show m - ((j : Int) + 1 + 1).toNat < m - ((j : Int) + 1).toNat; omega
            · obtain rfl : k = m := by omega
              have F0 := Frow.start L
              go_wp2
              go_loopw [14] (fun vi ww => ∃ (i : Nat), vi = .int .i64 i ∧ i ≤ k ∧ Frow W k g ww) (fun vi _ => k - (intOf vi).toNat)
              case atStart => exact ⟨0, rfl, Nat.zero_le _, F0⟩
              case round =>
                clear F0 L
                obtain ⟨i, rfl, hi, F⟩ := hrel
                by_cases hlt : i < k
                · obtain ⟨⟨v, p0⟩, p1⟩ := F.cell i hlt
                  have hi0 : (0 : Int) ≤ (i : Int) := Int.natCast_nonneg _
                  have hi1 : (i : Int) < (k : Int) := by omega
                  have F2 := F.set hlt (.int .i64 (-1))
                  go_wp2
                  go_roundw
                  case rel => exact ⟨i + 1, by go_num, by omega, F2⟩
                  case measure => show k - ((i : Int) + 1).toNat < k - (i : Int).toNat; omega
                · obtain rfl : i = k := by omega
                  have hord := ord_any pb po i lc X Y W wr (hP.keep F.bel hp) hn h1 F.bel.size
                  have hbl := F.bel
                  clear F
                  go_wp2_with (go_at_call 21; refine hord.mono ?_; rintro e w7 ⟨⟨A2, m2, c2, er2, rfl, hA2⟩, hb7⟩; (have hbw := hbl.trans (hb7.mono hbl.size)))
                  rcases hA2 with ⟨_, rfl, rfl, g2, G2, rfl, H2⟩ | ⟨h, _⟩
                  · go_loopw [17] (fun vi ww => ∃ (q : Nat), vi = .int .i64 q ∧ q ≤ m2 ∧ ww = w7) (fun vi _ => m2 - (intOf vi).toNat)
                    case atStart => exact ⟨0, rfl, Nat.zero_le _, rfl⟩
                    case round =>
                      obtain ⟨q, rfl, hq, rfl⟩ := hrel
                      by_cases hlt : q < m2
                      · have p0 := (H2.cell q hlt).1
                        have hq0 : (0 : Int) ≤ (q : Int) := Int.natCast_nonneg _
                        have hq1 : (q : Int) < (m2 : Int) := by omega
                        have hq2 : ¬ (G2 q : Int) < 0 := by omega
                        go_wp2
                        go_roundw
                        case rel => exact ⟨q + 1, by go_num, by omega, trivial⟩
                        case measure => show m2 - ((q : Int) + 1).toNat < m2 - (q : Int).toNat; omega
                      · obtain rfl : q = m2 := by omega
                        go_wp2
                        go_ret
                        exact ⟨by simp, hbw⟩
                  · rw [hf] at h; cases h
        · rw [hf] at h; cases h
end Go.Proofs.Ytbmgjbpcijbocaa.pointSorts
