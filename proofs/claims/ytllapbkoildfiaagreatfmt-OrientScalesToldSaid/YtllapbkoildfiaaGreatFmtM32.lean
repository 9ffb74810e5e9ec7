/- Package expansion: lists of floats; step, add, told · expansion.grow · expansion.sum · Walk of math.Ldexp at powers of two · expansion.Valid. -/
import Derived.Test.YtllapbkoildfiaaGreatFmtM31
set_option linter.all false
set_option exponentiation.threshold 100000
namespace Go.Proofs.YtllapbkoildfiaaGreatFmt
section
open Go.RowKit
def Ls (w : World) (a : Option Addr) (L : List Int) : Prop := L = [] ∨ ∃ b o, a = some ⟨b, o, none⟩ ∧ ∀ i, i < L.length → ∃ x, w.cell? ⟨b, o + i, none⟩ = some (.int .i64 (iw x)) ∧ FV x (L.getD i 0) ∧ L.getD i 0 ≠ 0
theorem Ls.turn {S : Nat → Prop} {w w' : World} {a : Option Addr} {L : List Int} (h : Ls w a L) (t : Turn S w w') (hs : ∀ k, k < w.heap.size → S k → ∀ o, a ≠ some ⟨k, o, none⟩) : Ls w' a L := by
  rcases h with h | ⟨b, o, h1, h2⟩
  · exact .inl h
  · refine .inr ⟨b, o, h1, fun i hi => ?_⟩
    obtain ⟨x, c, f, g⟩ := h2 i hi
    have hl := World.block_lt_of_cell? w _ c
    exact ⟨x, (t.cell (p := ⟨b, o + i, none⟩) hl (fun g => hs b hl g o h1)).trans c, f, g⟩
theorem Ls.still {w w' : World} {a : Option Addr} {L : List Int} (h : Ls w a L) (t : Turn (fun _ => False) w w') : Ls w' a L := h.turn t fun _ _ g => g.elim
structure Out (w : World) (b cap : Nat) (L : List Int) : Prop where
  le : L.length ≤ cap
  ok : ∀ i, i < L.length → ∃ x, w.cell? ⟨b, i, none⟩ = some (.int .i64 (iw x)) ∧ FV x (L.getD i 0) ∧ L.getD i 0 ≠ 0
  here : ∀ i, i < cap → (w.cell? ⟨b, i, none⟩).isSome = true
  frz : ∀ i, w.frozen? ⟨b, i, none⟩ = false
  lt : b < w.heap.size
theorem Out.still {w w' : World} {b cap : Nat} {L : List Int} (h : Out w b cap L) (t : Turn (fun _ => False) w w') : Out w' b cap L :=
  ⟨h.le, fun i hi => by
    obtain ⟨x, c, f, g⟩ := h.ok i hi
    exact ⟨x, (t.cell (p := ⟨b, i, none⟩) h.lt id).trans c, f, g⟩, fun i hi => by rw [t.cell (p := ⟨b, i, none⟩) h.lt id]; exact h.here i hi, fun i => (t.frozen (p := ⟨b, i, none⟩) h.lt id).trans (h.frz i), Nat.lt_of_lt_of_le h.lt t.size⟩
theorem Out.ls {w : World} {b cap : Nat} {L : List Int} (h : Out w b cap L) : Ls w (some ⟨b, 0, none⟩) L := .inr ⟨b, 0, rfl, fun i hi => by rw [Nat.zero_add]; exact h.ok i hi⟩
theorem Out.made (w : World) (cap : Nat) : Out (w.alloc (zerosI cap)) w.heap.size cap [] :=
  ⟨Nat.zero_le _, fun i hi => absurd hi (Nat.not_lt_zero _), fun i hi => by rw [cell_zerosI w cap i hi]; rfl, fun i => frozen_zerosI w cap i, by rw [size_alloc]; exact Nat.lt_succ_self _⟩
def nz (z : Int) : List Int := if z = 0 then [] else [z]
theorem nz_zero : nz 0 = [] := rfl
theorem nz_some {z : Int} (h : z ≠ 0) : nz z = [z] := if_neg h
theorem Out.more {w : World} {b cap x : Nat} {L : List Int} {z : Int} (h : Out w b cap L) (hx : FV x z) (hz : z ≠ 0) (hl : L.length < cap) : Out (w.setCell ⟨b, L.length, none⟩ (.int .i64 (iw x))) b cap (L ++ nz z) := by
  rw [nz_some hz]
  obtain ⟨u, hu⟩ := Option.isSome_iff_exists.1 (h.here L.length hl)
  refine ⟨by rw [List.length_append]; exact hl, fun i hi => ?_, fun i hi => ?_, fun i => by rw [World.frozen?_setCell]; exact h.frz i, by
    have t := (Turn.refl (fun k => k = b) w).setCell (p := ⟨b, L.length, none⟩) (fun _ => rfl) (.int .i64 (iw x))
    exact Nat.lt_of_lt_of_le h.lt t.size⟩
  · rw [List.length_append] at hi
    by_cases g : i < L.length
    · obtain ⟨y, c, f, k⟩ := h.ok i g
      refine ⟨y, ?_, ?_, ?_⟩
      · rw [World.cell?_setCell_other _ _ _ _ (fun e => absurd (congrArg Addr.off e) (by show ¬ (L.length = i); omega))]; exact c
      · rw [List.getD_eq_getElem?_getD, List.getElem?_append_left g, ← List.getD_eq_getElem?_getD]; exact f
      · rw [List.getD_eq_getElem?_getD, List.getElem?_append_left g, ← List.getD_eq_getElem?_getD]; exact k
    · have hi2 : i = L.length := by
        have : [z].length = 1 := rfl
        omega
      subst hi2
      refine ⟨x, World.cell?_setCell_same _ _ _ hu, ?_, ?_⟩
      · rw [List.getD_eq_getElem?_getD, List.getElem?_append_right (Nat.le_refl _), Nat.sub_self]; exact hx
      · rw [List.getD_eq_getElem?_getD, List.getElem?_append_right (Nat.le_refl _), Nat.sub_self]; exact hz
  · by_cases g : i = L.length
    · subst g
      rw [World.cell?_setCell_same _ _ _ hu]; rfl
    · rw [World.cell?_setCell_other _ _ _ _ (fun e => absurd (congrArg Addr.off e) (by show ¬ (L.length = i); omega))]; exact h.here i hi
theorem step_any (h l : Int) (w : World) : Calls Tryz.prog 100 #[.int .i64 h, .int .i64 l, .bool true] w fun e w' => e = .returned (.tuple #[.int .i64 h, .int .i64 l]) ∧ w = w' := by
  go_enter Tryz.func100, Tryz.ntmps100
  go_wp2
  go_ret2
  exact ⟨rfl, rfl⟩
theorem etold_any (a : Option Addr) (n c : Nat) (hn : n ≤ 4096) (w : World) : Calls Tryz.prog 72 #[.slice a n c] w fun e w' => e = .returned (.tuple #[.slice a n c, .int .i64 0]) ∧ w = w' := by
  have h : ¬ (4096 : Int) < (n : Int) := by omega
  have h2 : ¬ 4096 < n := by omega
  go_enter Tryz.func72, Tryz.ntmps72
  go_wp2
  go_ret2
  exact ⟨rfl, rfl⟩
def AddRes (w : World) (b cap : Nat) (L : List Int) (en : Ending) (w' : World) : Prop := en = .returned (.slice (some ⟨b, 0, none⟩) L.length cap) ∧ Out w' b cap L ∧ Turn (fun k => k = b) w w'
set_option maxRecDepth 100000 in
set_option maxHeartbeats 1000000 in
theorem eadd_any (b cap x : Nat) (L : List Int) (z : Int) (w : World) (hO : Out w b cap L) (hx : FV x z) (hl : z ≠ 0 → L.length < cap) (_hc : cap ≤ 1000000) :
    Calls Tryz.prog 102 #[.slice (some ⟨b, 0, none⟩) L.length cap, .int .i64 (iw x)] w (AddRes w b cap (L ++ nz z)) := by
  have hC := Class_any x w hx.1.1
  by_cases hz : z = 0
  · have hc0 : cls x = 0 := (cls_zero hx.1).2 (hx.2.trans hz)
    rw [hc0] at hC
    rw [hz, nz_zero, List.append_nil]
    replace hO := Lib.hid hO
    clear hx hl hz hc0
    go_enter Tryz.func102, Tryz.ntmps102
    go_wp2_with (go_at_call 60; ((with_reducible refine hC.mono ?_)); rintro en wa ⟨rfl, rfl⟩)
    go_ret
    exact ⟨rfl, hO.out, Turn.refl _ _⟩
  · have hc0 : (cls x == 0) = false := by
      rw [beq_eq_false_iff_ne]
      intro e
      exact hz (hx.2 ▸ (cls_zero hx.1).1 e)
    have hl := hl hz
    have t1 := (Turn.refl (fun _ => False) w).alloc (.cells #[.int .i64 (iw x)] 3)
    have hO1 := hO.still t1
    have hM := hO1.more hx hz hl
    have hT : Turn (fun k => k = b) w ((w.alloc (.cells #[.int .i64 (iw x)] 3)).setCell ⟨b, L.length, none⟩ (.int .i64 (iw x))) := ((Turn.refl (fun k => k = b) w).alloc _).setCell (p := ⟨b, L.length, none⟩) (fun _ => rfl) _
    have hsome := hO1.here L.length hl
    have hfrz := hO1.frz L.length
    have hlen : (L ++ nz z).length = L.length + 1 := by rw [nz_some hz, List.length_append]; rfl
    have hfin : AddRes w b cap (L ++ nz z) (.returned (.slice (some ⟨b, 0, none⟩) (L.length + 1) cap)) ((w.alloc (.cells #[.int .i64 (iw x)] 3)).setCell ⟨b, L.length, none⟩ (.int .i64 (iw x))) := ⟨by rw [hlen], hM, hT⟩
    replace hfin := Lib.hid hfin
    generalize cls x = kx at *
    generalize L.length = n at *
    clear hO hO1 hM hT hx hz t1 hlen
    go_enter Tryz.func102, Tryz.ntmps102
    go_wp2_with (first
      | (go_at_call 60; ((with_reducible refine hC.mono ?_)); rintro en wa ⟨rfl, rfl⟩)
      | (at_builtin; (refine wpList_append_int _ rfl _ _ rfl b n cap rfl ⟨w.heap.size, 0, none⟩ 1 (iw x) rfl (cell_made _ _ _ 0) hl hsome hfrz ?_)))
    trace_state
    go_ret
    exact hfin.out
end
section
open Go.RowKit
def gq (E : List Int) (b : Int) : Nat → Int
  | 0 => b
  | i + 1 => rn (gq E b i + E.getD i 0)
def gout (E : List Int) (b : Int) : Nat → List Int
  | 0 => []
  | i + 1 => gout E b i ++ nz (gq E b i + E.getD i 0 - rn (gq E b i + E.getD i 0))
def growL (E : List Int) (b : Int) : List Int := gout E b E.length ++ nz (gq E b E.length)
theorem nz_len (z : Int) : (nz z).length ≤ 1 := by unfold nz; split <;> simp
theorem gout_len (E : List Int) (b : Int) : ∀ i, (gout E b i).length ≤ i
  | 0 => Nat.le_refl _
  | i + 1 => by
    have := gout_len E b i
    have := nz_len (gq E b i + E.getD i 0 - rn (gq E b i + E.getD i 0))
    show (gout E b i ++ nz _).length ≤ _
    rw [List.length_append]
    omega
def LRes (w : World) (L : List Int) (en : Ending) (w' : World) : Prop := ∃ a c, en = .returned (.slice a L.length c) ∧ L.length ≤ c ∧ Ls w' a L ∧ (∀ b o, a = some ⟨b, o, none⟩ → w.heap.size ≤ b ∧ o = 0) ∧ Turn (fun _ => False) w w'
theorem tab_old {S : Nat → Prop} {w w' : World} (h : Tab w) (t : Turn S w w') (hs : ∀ k, k < w.heap.size → ¬ S k := by intro k hk e; omega) : Tab w' := fun k hk => by
  have hc := h k hk
  have hl := World.block_lt_of_cell? w _ hc
  exact (t.cell hl (hs _ hl)).trans hc
def GRes (w : World) (L : List Int) (en : Ending) (w' : World) : Prop := ∃ b c, en = .returned (.slice (some ⟨b, 0, none⟩) L.length c) ∧ L.length ≤ c ∧ Ls w' (some ⟨b, 0, none⟩) L ∧ w.heap.size ≤ b ∧ Turn (fun _ => False) w w'
structure GRel (w w1 : World) (E : List Int) (b : Int) (i : Nat) (wr : World) (x : Nat) : Prop where
  out : Out wr w.heap.size (E.length + 1) (gout E b i)
  q : FV x (gq E b i)
  turn : Turn (fun k => k = w.heap.size) w1 wr
set_option maxRecDepth 100000 in
set_option maxHeartbeats 2000000 in
theorem grow_any (a : Option Addr) (c x : Nat) (E : List Int) (b : Int) (w : World) (hE : Ls w a E) (hx : FV x b) (hn : E.length ≤ 100000) (hq : ∀ i, i ≤ E.length → (gq E b i).natAbs < 2 ^ 2080) (hb : ∀ i, i < E.length → (E.getD i 0).natAbs < 2 ^ 2080) (hT : Tab w) :
    Calls Tryz.prog 99 #[.slice a E.length c, .int .i64 (iw x)] w (GRes w (growL E b)) := by
  have hmk : ∀ w : World, (Instr.makeSlice 51 (.int .i64 0) (.int .i64 ((E.length : Int) + 1))).run Tryz.prog w = .ok (.slice (some ⟨w.heap.size, 0, none⟩) 0 (E.length + 1)) (w.alloc (zerosI (E.length + 1))) := run_make_int (E.length + 1) (by omega)
  have t0 := (Turn.refl (fun _ => False) w).alloc (zerosI (E.length + 1))
  have h0 : GRel w (w.alloc (zerosI (E.length + 1))) E b 0 (w.alloc (zerosI (E.length + 1))) x := ⟨Out.made _ _, hx, Turn.refl _ _⟩
  have hsz := size_alloc w (zerosI (E.length + 1))
  have hw1 : IntKind.i64.wrap ((E.length : Int) + 1) = (E.length : Int) + 1 := by rw [IntKind.wrap_i64]; omega
  replace t0 := Lib.hid t0
  replace h0 := Lib.hid h0
  replace hE := Lib.hid hE
  replace hsz := Lib.hid hsz
  replace hq := Lib.hid hq
  replace hb := Lib.hid hb
  clear hx
  generalize hnn : E.length = n at *
  go_enter Tryz.func99, Tryz.ntmps99
  go_wp2_with fail
  generalize w.alloc (zerosI (n + 1)) = w1 at *
  go_loopw [17, 5, 6] (fun vi vo vq wr => ∃ (k : Nat) (y : Nat), k ≤ n ∧ vi = .int .i64 k ∧ vo = .slice (some ⟨w.heap.size, 0, none⟩) (gout E b k).length (n + 1) ∧ vq = .int .i64 (iw y) ∧ GRel w w1 E b k wr y) (fun vi _ _ _ => n - (intOf vi).toNat)
  case atStart => exact ⟨0, x, Nat.zero_le _, rfl, rfl, rfl, h0.out⟩
  case round =>
    obtain ⟨k, y, hk, rfl, rfl, rfl, hrel⟩ := hrel
    by_cases hkn : k < n
    · rcases hE.out with h | ⟨bE, oE, rfl, hok⟩
      · rw [h] at hnn; simp at hnn; omega
      obtain ⟨xe, ce, fe, -⟩ := hok k (by omega)
      have hbl := World.block_lt_of_cell? w _ ce
      have tw : Turn (fun k => k = w.heap.size) w wr := (t0.out.mono fun _ _ h => h.elim).trans' hrel.turn
      have c0 := (tw.cell (p := ⟨bE, oE + k, none⟩) hbl (Nat.ne_of_lt hbl)).trans ce
      have hT0 : Tab wr := tab_old hT tw
      have hS := TwoSum_any y xe _ _ wr hrel.q fe (hq.out k hk) (hb.out k (by omega)) hT0
      have hst := fun h l => step_any (iw h) (iw l)
      have hO : Out wr w.heap.size (n + 1) (gout E b k) := by have := hrel.out; rw [hnn] at this; exact this
      have hA := fun wa l (t : Turn (fun _ => False) wr wa) (fl : FV l (gq E b k + E.getD k 0 - rn (gq E b k + E.getD k 0))) => (show Calls Tryz.prog 102 #[.slice (some ⟨w.heap.size, 0, none⟩) (gout E b k).length (n + 1), .int .i64 (iw l)] wa (AddRes wa w.heap.size (n + 1) (gout E b (k + 1))) from eadd_any w.heap.size (n + 1) l (gout E b k) _ wa (hO.still t) fl (fun _ => by have := gout_len E b k; omega) (by omega))
      have hn1 : (0 : Int) ≤ (k : Int) := by omega
      have hn2 : (k : Int) < n := by omega
      have hfin := Lib.hid (fun wa wb h (t : Turn (fun _ => False) wr wa) (fh : FV h (rn (gq E b k + E.getD k 0))) (ho : Out wb w.heap.size (n + 1) (gout E b (k + 1))) (t2 : Turn (fun k => k = w.heap.size) wa wb) => (show GRel w w1 E b (k + 1) wb h from ⟨by rw [hnn]; exact ho, fh, (hrel.turn.trans' (t.mono fun _ _ g => g.elim)).trans' t2⟩))
      replace hA := Lib.hid hA
      replace hst := Lib.hid hst
      clear hok ce fe hrel hT0 hT hE hO
      go_wp2_with (first
        | (go_at_call 78; ((with_reducible refine hS.mono ?_)); rintro en wa ⟨h, l, rfl, fh, fl, t⟩
           have hst2 := hst.out h l wa
           have hA2 := hA.out wa l t fl
           replace fl := Lib.hid fl)
        | (go_at_call 100; ((with_reducible refine hst2.mono ?_)); rintro en wb ⟨rfl, rfl⟩)
        | (go_at_call 102; ((with_reducible refine hA2.mono ?_)); rintro en wc ⟨rfl, g1, g2⟩
           have hrel2 := Lib.hid (hfin.out _ _ _ t fh g1 g2)
           clear g1 g2 t fh))
      all_goals go_roundw
      case rel => exact ⟨k + 1, h, by omega, by go_num, rfl, rfl, hrel2.out⟩
      case measure => simp [intOf]; omega
    · obtain rfl : k = n := by omega
      have hA := eadd_any w.heap.size (k + 1) y (gout E b k) (gq E b k) wr (by have := hrel.out; rw [hnn] at this; exact this) hrel.q (fun _ => by have := gout_len E b k; omega) (by omega)
      have hg : gout E b k ++ nz (gq E b k) = growL E b := by unfold growL; rw [hnn]
      rw [hg] at hA
      have hl2 : (growL E b).length ≤ k + 1 := by
        rw [← hg, List.length_append]
        have := gout_len E b k
        have := nz_len (gq E b k)
        omega
      have tt := hrel.turn
      replace tt := Lib.hid tt
      clear hrel
      go_wp2_with (go_at_call 102; ((with_reducible refine hA.mono ?_)); rintro en wc ⟨rfl, g1, g2⟩)
      go_ret
      exact ⟨_, _, rfl, hl2, g1.ls, Nat.le_refl _, (t0.out.trans tt.out fun k hk e => by omega).trans g2 fun k hk e => by omega⟩
end
section
open Go.RowKit
def sq (E F : List Int) : Nat → List Int
  | 0 => E
  | i + 1 => growL (sq E F i) (F.getD i 0)
def cl (w : World) (b o n : Nat) : List Value := (List.range n).map fun i => (w.cell? ⟨b, o + i, none⟩).getD (.bool false)
theorem cl_len (w : World) (b o n : Nat) : (cl w b o n).length = n := by unfold cl; simp
theorem cl_get {w : World} {b o n j : Nat} {u : Value} (h : (cl w b o n)[j]? = some u) : j < n ∧ u = (w.cell? ⟨b, o + j, none⟩).getD (.bool false) := by
  unfold cl at h
  rw [List.getElem?_map] at h
  obtain ⟨v, h1, h2⟩ := Option.map_eq_some_iff.1 h
  obtain ⟨h3, h4⟩ := List.getElem?_eq_some_iff.1 h1
  simp at h3 h4
  subst h4
  exact ⟨h3, h2.symm⟩
theorem Ls.copied {w w' : World} {b o : Nat} {L : List Int} {v' : Value} (h : ∀ i, i < L.length → ∃ x, w.cell? ⟨b, o + i, none⟩ = some (.int .i64 (iw x)) ∧ FV x (L.getD i 0) ∧ L.getD i 0 ≠ 0)
    (hown : w'.ownsRow w.heap.size 3 1 v' (0 + L.length) ([] ++ cl w b o L.length)) (hg : w.grownBy w' none) : LRes w L (.returned v') w' := by
  have hc := fun g => hown.cells (g := g)
  have ht := Turn.ofGrown (S := fun _ => False) hg (fun k _ e => by cases e)
  rw [Nat.zero_add, List.nil_append] at hown
  obtain ⟨-, h1 | ⟨g, cap, cur, h1, h2, -, h3, -⟩⟩ := hown
  · obtain ⟨rfl, h0⟩ := h1
    have hL : L = [] := List.eq_nil_of_length_eq_zero h0
    subst hL
    exact ⟨none, 0, rfl, Nat.le_refl _, .inl rfl, (fun b o e => by cases e), ht⟩
  · subst h1
    refine ⟨some ⟨g, 0, none⟩, cap, rfl, h3, .inr ⟨g, 0, rfl, fun i hi => ?_⟩, fun b o e => by cases e; exact ⟨h2, rfl⟩, ht⟩
    obtain ⟨x, c, f, k⟩ := h i hi
    refine ⟨x, ?_, f, k⟩
    have h5 : ([] ++ cl w b o L.length)[i]? = some (.int .i64 (iw x)) := by
      rw [List.nil_append]
      unfold cl
      rw [List.getElem?_map, List.getElem?_range hi]
      show some ((w.cell? ⟨b, o + i, none⟩).getD (.bool false)) = _
      rw [c]; rfl
    have := hc g rfl i _ h5
    rw [addr_add] at this
    exact this
def GOk (E : List Int) (b : Int) : Prop := E.length ≤ 100000 ∧ (∀ i, i ≤ E.length → (gq E b i).natAbs < 2 ^ 2080) ∧ ∀ i, i < E.length → (E.getD i 0).natAbs < 2 ^ 2080
structure SmRel (w : World) (E F : List Int) (i : Nat) (wr : World) (a : Option Addr) : Prop where
  ls : Ls wr a (sq E F i)
  ad : 0 < i → ∃ b, a = some ⟨b, 0, none⟩
  turn : Turn (fun _ => False) w wr
set_option maxRecDepth 100000 in
set_option maxHeartbeats 4000000 in
theorem sum_any (a f : Option Addr) (c d : Nat) (E F : List Int) (w : World) (hE : Ls w a E) (hc : E.length ≤ c) (hF : Ls w f F) (hn : F.length ≤ 100000) (hF0 : F ≠ []) (hG : ∀ i, i < F.length → GOk (sq E F i) (F.getD i 0)) (hl : (sq E F F.length).length ≤ 100000) (hT : Tab w) (ha : E = [] ∨ ∃ b o, a = some ⟨b, o, none⟩) :
    Calls Tryz.prog 70 #[.slice a E.length c, .slice f F.length d] w (LRes w (sq E F F.length)) := by
  have h0 : SmRel w E F 0 w a := ⟨hE, fun h => absurd h (by omega), Turn.refl _ _⟩
  have i3 : (Tryz.prog.info? 3).map (fun i => (i.zero, i.size, i.bytes)) = some (some (.int .i64 0), 1, 8) := by kernel_rfl
  obtain ⟨i0, hi, hz0, hz1, hz2⟩ := info_parts i3
  have hcn : (E.length : Int) ≤ (c : Int) := by omega
  replace h0 := Lib.hid h0
  replace hF := Lib.hid hF
  replace hG := Lib.hid hG
  generalize hmm : F.length = m at *
  have hm0 : 0 < m := by
    rcases Nat.eq_zero_or_pos m with g | g
    · rw [g] at hmm; exact absurd (List.eq_nil_of_length_eq_zero hmm) hF0
    · exact g
  go_enter Tryz.func70, Tryz.ntmps70
  go_wp2_with fail
  go_loopw [16, 5] (fun vi vo wr => ∃ (k : Nat) (b : Option Addr) (e : Nat), k ≤ m ∧ vi = .int .i64 k ∧ vo = .slice b (sq E F k).length e ∧ SmRel w E F k wr b) (fun vi _ _ => m - (intOf vi).toNat)
  case atStart => exact ⟨0, a, E.length, Nat.zero_le _, rfl, rfl, h0.out⟩
  case round =>
    obtain ⟨k, b, e, hk, rfl, rfl, hrel⟩ := hrel
    by_cases hkm : k < m
    · rcases hF.out with h | ⟨bF, oF, rfl, hok⟩
      · rw [h] at hmm; simp at hmm; omega
      obtain ⟨xf, cf, ff', -⟩ := hok k (by omega)
      have hbl := World.block_lt_of_cell? w _ cf
      have c0 := (hrel.turn.cell (p := ⟨bF, oF + k, none⟩) hbl id).trans cf
      obtain ⟨g1, g2, g3⟩ := hG.out k (by omega)
      have hGr := grow_any b e xf _ _ wr hrel.ls ff' g1 g2 g3 (hT.still hrel.turn)
      have hGr : Calls Tryz.prog 99 #[.slice b (sq E F k).length e, .int .i64 (iw xf)] wr (GRes wr (sq E F (k + 1))) := hGr
      have hn1 : (0 : Int) ≤ (k : Int) := by omega
      have hn2 : (k : Int) < m := by omega
      have ht := Lib.hid hrel.turn
      clear hok cf ff' g1 g2 g3 hrel hT hE ha
      go_wp2_with (go_at_call 99; ((with_reducible refine hGr.mono ?_)); rintro en wa ⟨a2, c2, rfl, q1, q2, q3, q4⟩
                   have hrel2 := Lib.hid (show SmRel w E F (k + 1) wa (some ⟨a2, 0, none⟩) from ⟨q2, fun _ => ⟨a2, rfl⟩, ht.out.trans' q4⟩)
                   clear q1 q2 q3 q4)
      all_goals go_roundw
      case rel => exact ⟨k + 1, some ⟨a2, 0, none⟩, c2, by omega, by go_num, rfl, hrel2.out⟩
      case measure => simp [intOf]; omega
    · obtain rfl : k = m := by omega
      obtain ⟨bb, rfl⟩ := hrel.ad hm0
      have hcells : ∀ i, i < (sq E F k).length → ∃ x, wr.cell? ⟨bb, 0 + i, none⟩ = some (.int .i64 (iw x)) ∧ FV x ((sq E F k).getD i 0) ∧ (sq E F k).getD i 0 ≠ 0 := by
        rcases hrel.ls with h | ⟨b', o', h1, h2⟩
        · intro i hi; rw [h] at hi; exact absurd hi (Nat.not_lt_zero _)
        · cases h1; exact h2
      have hnews : ∀ j u, (cl wr bb 0 (sq E F k).length)[j]? = some u → wr.cell? ((⟨bb, 0, none⟩ : Addr).add j) = some u ∧ u.oneCell' = true := fun j u h => by
        obtain ⟨h1, h2⟩ := cl_get h
        obtain ⟨x, h3, -⟩ := hcells j h1
        rw [h3] at h2
        subst h2
        rw [addr_add]
        exact ⟨h3, rfl⟩
      have ht := Lib.hid hrel.turn
      have hcp := Lib.hid (fun v' w' h1 h2 => Ls.copied (v' := v') (w' := w') hcells h1 h2)
      have hone : ∀ u ∈ cl wr bb 0 (sq E F k).length, u.oneCell' = true := fun u hu => by
        obtain ⟨j, hj⟩ := List.mem_iff_getElem?.1 hu
        exact (hnews j u hj).2
      have hmax : 0 + (sq E F k).length ≤ maxLen := by unfold maxLen; omega
      clear hrel hcells hT hE ha
      go_wp2_with (at_builtin; refine wpList_append_own _ rfl _ _ 51 rfl wr.heap.size 3 i0 (.int .i64 0) 1 8 (by kernel_rfl) hi hz0 hz1 hz2 rfl (by decide) (.slice none 0 0) 0 [] rfl (World.ownsRow_nil _ _ _ _) ⟨bb, 0, none⟩ (sq E F k).length e (cl wr bb 0 (sq E F k).length) rfl (by rw [cl_len, Nat.mul_one]) (fun j u h => (hnews j u h).1) hone hmax (by omega) (Nat.le_refl _) ?_)
      intro v' w' hown hg _
      have hfin := hcp.out v' w' (by rw [Nat.zero_add, List.nil_append]; exact hown) hg
      clear hown hg hnews hone
      go_wp2_with fail
      go_ret
      obtain ⟨a1, c1, e1, e2, e3, e4, e5⟩ := hfin
      exact ⟨a1, c1, e1, e2, e3, fun b o h => ⟨Nat.le_trans ht.out.size (e4 b o h).1, (e4 b o h).2⟩, ht.out.trans' e5⟩
end
section
open Go.RowKit
def pw (k : Nat) : Nat := k * 4503599627370496
theorem pw_fin {k : Nat} (h1 : 1 ≤ k) (h2 : k ≤ 2046) : Fin64 (pw k) := by unfold pw Fin64; omega
theorem fv_pw {k : Nat} (h1 : 1 ≤ k) (h2 : k ≤ 2046) : fv (pw k) = 2 ^ (51 + k) := by
  unfold fv pw
  rw [if_neg (by omega), Nat.mod_eq_of_lt (by omega), show k * 4503599627370496 = (k - 1) * 4503599627370496 + 4503599627370496 by omega, mg_at (.inr (by omega))]
  rw [show 51 + k = 52 + (k - 1) by omega, Int.pow_add, Int.natCast_mul, Int.natCast_pow]
  rfl
theorem FV.pw {k : Nat} (h1 : 1 ≤ k) (h2 : k ≤ 2046) : FV (pw k) (2 ^ (51 + k)) := ⟨pw_fin h1 h2, fv_pw h1 h2⟩
theorem one_mul_pw {k : Nat} (h1 : 1 ≤ k) (h2 : k ≤ 2040) : floatBits .mul .f64 4607182418800017408 (pw k) = some (pw k) := by
  have ho : FV 4607182418800017408 (2 ^ (51 + 1023)) := FV.pw (k := 1023) (by omega) (by omega)
  have hp := FV.pw h1 (show k ≤ 2046 by omega)
  have hb : ((2 : Int) ^ (51 + k)).natAbs < 2 ^ (52 + k) := by
    rw [Int.natAbs_pow]
    exact Nat.pow_lt_pow_right (by decide) (by omega)
  obtain ⟨r, e1, e2⟩ := fmul ho hp (z := 2 ^ (51 + k)) (by rw [Int.mul_comm]) hb (by omega)
  have hr : rn ((2 : Int) ^ (51 + k)) = 2 ^ (51 + k) := rn_rep (Rep.mk (m := 1) (k := 51 + k) (by rw [Int.one_mul]) (by omega) (by omega))
  rw [hr] at e2
  have h0 : fv r ≠ 0 := by rw [e2.2]; exact Int.ne_of_gt (pow_pos2 _)
  rw [e1, fv_inj e2.1.1 hp.1.1 (by rw [e2.2, hp.2]) h0]
theorem normalize_any (n : Nat) (w : World) (h1 : 4503599627370496 ≤ n) (h2 : n < 9218868437227405312) : Calls Tryz.prog 194 #[.float .f64 n] w fun e w' => e = .returned (.tuple #[.float .f64 n, .int .i64 0]) ∧ w = w' := by
  have hA := fAbs_any n w (by omega)
  rw [Nat.mod_eq_of_lt (by omega)] at hA
  have hs : NN 4503599627370496 := ⟨by omega, by omega⟩
  have o := beq_lt (x := n) (y := 4503599627370496) ⟨by omega, by omega⟩ hs
  rw [decide_eq_false (by unfold rk; rw [if_neg (by omega), if_neg (by omega), Nat.mod_eq_of_lt (by omega)]; omega)] at o
  clear h1 h2 hs
  go_enter Tryz.func194, Tryz.ntmps194
  go_wp2_with (go_at_call 26; ((with_reducible refine hA.mono ?_)); rintro en wa ⟨rfl, rfl⟩)
  go_ret2
  exact ⟨rfl, rfl⟩
theorem and_gone (k : Nat) (hk : k < 2048) : (k * 4503599627370496) &&& (18446744073709551615 - 9218868437227405312) = 0 := by
  have e : (18446744073709551615 - 9218868437227405312 : Nat) = 2 ^ 63 ||| (2 ^ 52 - 1) := by decide
  rw [e, Nat.and_or_distrib_left, Nat.and_two_pow_sub_one_eq_mod]
  have a : k * 4503599627370496 % 2 ^ 52 = 0 := by rw [show (2 : Nat) ^ 52 = 4503599627370496 by decide]; omega
  have b : (k * 4503599627370496) &&& 2 ^ 63 = 0 := by
    have h63 : (k * 4503599627370496).testBit 63 = false := Nat.testBit_lt_two_pow (by rw [show (2 : Nat) ^ 63 = 9223372036854775808 by decide]; omega)
    apply Nat.eq_of_testBit_eq
    intro i
    rw [Nat.testBit_and, Nat.testBit_two_pow, Nat.zero_testBit]
    by_cases hi : 63 = i
    · subst hi; rw [h63]; rfl
    · simp [hi]
  rw [a, b]; rfl
theorem exp_put {k s : Nat} {e : Int} (hk : k < 2048) (hs : s < 2048) (he : (k : Int) + e = s) : bits .or .u64 (bits .andNot .u64 ((pw k : Nat) : Int) 9218868437227405312) ((e + ((k : Int) - 1023) + 1023) * 4503599627370496) = ((pw s : Nat) : Int) := by
  have h1 : bits .andNot .u64 ((pw k : Nat) : Int) 9218868437227405312 = ((pw k &&& (18446744073709551615 - 9218868437227405312) : Nat) : Int) := u64_andNot_nat (pw k) 9218868437227405312 (by unfold pw; omega) (by omega)
  rw [h1]
  unfold pw
  rw [and_gone k hk]
  have h2 : (e + ((k : Int) - 1023) + 1023) * 4503599627370496 = ((s * 4503599627370496 : Nat) : Int) := by omega
  rw [h2, u64_or_nat 0 (s * 4503599627370496) (by omega) (by omega), Nat.zero_or]
set_option maxRecDepth 100000 in
set_option maxHeartbeats 1000000 in
theorem ldexp_pw (k : Nat) (e : Int) (w : World) (hk : 1000 ≤ k ∧ k ≤ 1100) (he : 1 ≤ (k : Int) + e ∧ (k : Int) + e ≤ 2040) :
    Calls Tryz.prog 165 #[.float .f64 (pw k), .int .i64 e] w fun en w' => en = .returned (.float .f64 (pw ((k : Int) + e).toNat)) ∧ w = w' := by
  have hf := pw_fin (k := k) (by omega) (by omega)
  have hz : NN 0 := ⟨by omega, by omega⟩
  have o := beq_eq hf.nn hz
  rw [decide_eq_false (by rw [rk_zero]; unfold rk pw; rw [if_neg (by omega)]; omega)] at o
  have hI := IsInf_0 (pw k) w hf.nn
  rw [decide_eq_false (by have := hf.2; omega)] at hI
  have hN := IsNaN_no (pw k) w hf.nn
  have hM := normalize_any (pw k) w (by unfold pw; omega) (by unfold pw; omega)
  have fb := to_bits
  have fc := from_bits
  obtain ⟨s, hs⟩ : ∃ s : Nat, (k : Int) + e = s := ⟨((k : Int) + e).toNat, by omega⟩
  have hm := one_mul_pw (k := s) (by omega) (by omega)
  have hmul : ∀ w, (binOp .mul 57 (.float .f64 4607182418800017408) (.float .f64 (pw s))).run Tryz.prog w = .ok (.float .f64 (pw s)) w := fun w => run_float_arith w .mul 57 .f64 _ _ _ hm
  have hsh : ((pw k : Nat) : Int) / 4503599627370496 = (k : Int) := by unfold pw; omega
  have ha1 := and_2047 (k : Int)
  rw [show (k : Int) % 2048 = k by omega] at ha1
  rw [hs, Int.toNat_natCast]
  have hput := exp_put (k := k) (s := s) (e := e) (by omega) (by omega) hs
  generalize hp : pw k = p at *
  go_enter Tryz.func165, Tryz.ntmps165
  go_wp2_with (first
    | (go_at_call 115; ((with_reducible refine hI.mono ?_)); rintro en wa ⟨rfl, rfl⟩)
    | (go_at_call 177; ((with_reducible refine hN.mono ?_)); rintro en wa ⟨rfl, rfl⟩)
    | (go_at_call 194; ((with_reducible refine hM.mono ?_)); rintro en wa ⟨rfl, rfl⟩))
  go_ret
  exact ⟨rfl, rfl⟩
theorem Ldexp_pw (k : Nat) (e : Int) (w : World) (hk : 1000 ≤ k ∧ k ≤ 1100) (he : 1 ≤ (k : Int) + e ∧ (k : Int) + e ≤ 2040) :
    Calls Tryz.prog 136 #[.float .f64 (pw k), .int .i64 e] w fun en w' => en = .returned (.float .f64 (pw ((k : Int) + e).toNat)) ∧ w = w' := by
  have h := ldexp_pw k e w hk he
  clear hk he
  generalize pw k = p at *
  generalize pw ((k : Int) + e).toNat = q at *
  go_enter Tryz.func136, Tryz.ntmps136
  go_wp2_with (go_at_call 165; ((with_reducible refine h.mono ?_)); rintro en wa ⟨rfl, rfl⟩)
  go_ret
  exact ⟨rfl, rfl⟩
theorem float_pow (t : Nat) (ht : t ≤ 52) : floatOfInt .f64 ((2 ^ t : Nat) : Int) = pw (t + 1023) := by
  have h : ∀ t : Fin 53, floatOfInt .f64 ((2 ^ t.val : Nat) : Int) = pw (t.val + 1023) := by decide
  exact h ⟨t, by omega⟩
end
section
open Go.RowKit
structure Vld (E : List Int) : Prop where
  nz : ∀ i, i < E.length → E.getD i 0 ≠ 0
  dvd : ∀ i, i < E.length → (2 : Int) ^ 60 ∣ E.getD i 0
  lt : ∀ i, i < E.length → (E.getD i 0).natAbs < 2 ^ 2080
  gap : ∀ i j, i < j → j < E.length → ∃ k : Nat, (E.getD i 0).natAbs < 2 ^ k ∧ (2 : Int) ^ k ∣ E.getD j 0
theorem low_bit {m : Nat} (h0 : m ≠ 0) (h : m < 9007199254740992) : ∃ t q, t ≤ 52 ∧ m = 2 ^ t * (2 * q + 1) ∧ bits .and .i64 (m : Int) (-(m : Int)) = ((2 ^ t : Nat) : Int) := by
  obtain ⟨q, hq, ht⟩ := ctz_spec (a := m) h0 (by omega)
  have hl := (Lib.lowest_bit 64 m h0 (by rw [show (2 : Nat) ^ 64 = 18446744073709551616 by decide]; omega)).1
  generalize Lib.ctz 64 m = t at *
  have ht2 : t ≤ 52 := by
    have h1 : 2 ^ t ≤ m := by rw [hq]; exact Nat.le_mul_of_pos_right _ (by omega)
    have h2 : 2 ^ t < 2 ^ 53 := Nat.lt_of_le_of_lt h1 (by rw [show (2 : Nat) ^ 53 = 9007199254740992 by decide]; exact h)
    have := (Nat.pow_lt_pow_iff_right (a := 2) (by omega)).1 h2
    omega
  refine ⟨t, q, ht2, hq, ?_⟩
  have e1 : (BitVec.ofInt 64 (m : Int)).toNat = m := by
    rw [BitVec.toNat_ofInt]
    have : ((2 ^ 64 : Nat) : Int) = 18446744073709551616 := by decide
    omega
  have e2 : (BitVec.ofInt 64 (-(m : Int))).toNat = 2 ^ 64 - m := by
    rw [BitVec.toNat_ofInt]
    have : ((2 ^ 64 : Nat) : Int) = 18446744073709551616 := by decide
    have : (2 ^ 64 : Nat) = 18446744073709551616 := by decide
    omega
  show IntKind.i64.wrap ((BitVec.ofInt 64 (m : Int) &&& BitVec.ofInt 64 (-(m : Int))).toNat : Nat) = _
  rw [BitVec.toNat_and, e1, e2, hl, IntKind.wrap_i64]
  have h3 : 2 ^ t ≤ 2 ^ 52 := Nat.pow_le_pow_right (by omega) ht2
  rw [show (2 : Nat) ^ 52 = 4503599627370496 by decide] at h3
  generalize 2 ^ t = u at *
  omega
theorem dvd_odd {k s q : Nat} (h : 2 ^ k ∣ 2 ^ s * (2 * q + 1)) : k ≤ s := by
  rcases Nat.lt_or_ge s k with g | g
  · exfalso
    have h1 : 2 ^ (s + 1) ∣ 2 ^ s * (2 * q + 1) := Nat.dvd_trans (Nat.pow_dvd_pow 2 g) h
    rw [Nat.pow_succ] at h1
    have h2 := Nat.dvd_of_mul_dvd_mul_left (Nat.two_pow_pos s) h1
    omega
  · exact g
theorem low_value {x : Nat} {z : Int} (hx : FV x z) (hz : z ≠ 0) (hd : (2 : Int) ^ 60 ∣ z) (hl : z.natAbs < 2 ^ 2080) : ∃ t : Nat, t ≤ 52 ∧ bits .and .i64 ((mant x : Nat) : Int) (-((mant x : Nat) : Int)) = ((2 ^ t : Nat) : Int) ∧
    (1 ≤ ((t + 1023 : Nat) : Int) + expo x ∧ ((t + 1023 : Nat) : Int) + expo x ≤ 2040) ∧ ∀ k : Nat, (2 : Int) ^ k ∣ z → (2 : Nat) ^ k ≤ 2 ^ (51 + (((t + 1023 : Nat) : Int) + expo x).toNat) := by
  obtain ⟨hf, rfl⟩ := hx
  have hm := fv_mant x hf
  rw [← fv_abs] at hm
  have h0 : mant x ≠ 0 := fun e => by rw [e, Nat.zero_mul] at hm; omega
  obtain ⟨t, q, h1, h2, h3⟩ := low_bit h0 (mant_lt x)
  have he := expo_le hf
  have hm2 : (fv x).natAbs = 2 ^ (t + (expo x + 1074).toNat) * (2 * q + 1) := by rw [hm, h2, Nat.pow_add]; ac_rfl
  have key : ∀ k : Nat, (2 : Int) ^ k ∣ fv x → k ≤ t + (expo x + 1074).toNat := fun k hk => by
    refine dvd_odd (q := q) ?_
    rw [← hm2]
    have e : (2 : Int) ^ k = ((2 ^ k : Nat) : Int) := by rw [Int.natCast_pow]; rfl
    rw [e] at hk
    exact Int.ofNat_dvd_left.1 hk
  have h60 := key 60 hd
  have hup : t + (expo x + 1074).toNat < 2080 := by
    have : 2 ^ (t + (expo x + 1074).toNat) ≤ (fv x).natAbs := by rw [hm2]; exact Nat.le_mul_of_pos_right _ (by omega)
    exact (Nat.pow_lt_pow_iff_right (a := 2) (by omega)).1 (Nat.lt_of_le_of_lt this hl)
  refine ⟨t, h1, h3, ⟨by omega, by omega⟩, fun k hk => Nat.pow_le_pow_right (by omega) ?_⟩
  have := key k hk
  omega
set_option maxRecDepth 100000 in
set_option maxHeartbeats 4000000 in
theorem Valid_any (a : Option Addr) (c : Nat) (E : List Int) (w : World) (hE : Ls w a E) (hV : Vld E) (hn : E.length ≤ 4096) :
    Calls Tryz.prog 98 #[.slice a E.length c] w fun e w' => e = .returned (.bool true) ∧ w = w' := by
  have hn1 : ¬ (4096 : Int) < (E.length : Int) := by omega
  have hn2 : ¬ 4096 < E.length := by omega
  have fv0 : fv 0 = 0 := by decide
  have f0 : Fin64 0 := ⟨by omega, by omega⟩
  replace hE := Lib.hid hE
  replace hV := Lib.hid hV
  replace fv0 := Lib.hid fv0
  replace f0 := Lib.hid f0
  generalize hnn : E.length = n at *
  go_enter Tryz.func98, Tryz.ntmps98
  go_wp2
  go_loop [15, 3] (fun vi vb => ∃ (k y : Nat), k ≤ n ∧ vi = .int .i64 k ∧ vb = .float .f64 y ∧ Hid (Fin64 y ∧ (fv y).natAbs = (if k = 0 then 0 else (E.getD (k - 1) 0).natAbs) ∧ 0 ≤ fv y)) (fun vi _ => n - (intOf vi).toNat)
  case atStart => exact ⟨0, 0, Nat.zero_le _, rfl, rfl, Lib.hid ⟨f0.out, by rw [fv0.out]; rfl, by rw [fv0.out]; exact Int.le_refl _⟩⟩
  case round =>
    obtain ⟨k, y, hk, rfl, rfl, hy⟩ := hrel
    by_cases hkn : k < n
    · rcases hE.out with h | ⟨b, o, rfl, hok⟩
      · rw [h] at hnn; simp at hnn; omega
      obtain ⟨x, cx, fx, hx0⟩ := hok k (by omega)
      obtain ⟨t, t1, t2, t3, t4⟩ := low_value fx hx0 (hV.out.dvd k (by omega)) (hV.out.lt k (by omega))
      have hC := Class_any x w fx.1.1
      have hc1 : cls x = 1 ∨ cls x = 2 := by
        have h1 := cls_fin fx.1
        have h2 : cls x ≠ 0 := fun e => hx0 (fx.2 ▸ (cls_zero fx.1).1 e)
        have h3 : 0 ≤ cls x := by unfold cls; split <;> (try split) <;> (try split) <;> omega
        omega
      have hP := Parts_any x w fx.1
      have hL := Ldexp_pw (t + 1023) (expo x) w (by omega) t3
      have hfl := float_pow t t1
      have hFl := Float_any x w fx.1.1
      have hAb := fAbs_any x w fx.1.1
      have hw : IntKind.i64.wrap (-((mant x : Nat) : Int)) = -((mant x : Nat) : Int) := by have := mant_lt x; rw [IntKind.wrap_i64]; omega
      have hbelow : (FloatKind.f64.format.order y (pw (((t + 1023 : Nat) : Int) + expo x).toNat) == some .lt) = true := by
        have hp := pw_fin (k := (((t + 1023 : Nat) : Int) + expo x).toNat) (by omega) (by omega)
        rw [beq_lt hy.out.1.nn hp.nn, decide_eq_true]
        refine fv_lt.1 ?_
        rw [fv_pw (by omega) (by omega)]
        have h1 := hy.out.2.1
        have h2 := hy.out.2.2
        have e : (2 : Int) ^ (51 + (((t + 1023 : Nat) : Int) + expo x).toNat) = ((2 ^ (51 + (((t + 1023 : Nat) : Int) + expo x).toNat) : Nat) : Int) := by rw [Int.natCast_pow]; rfl
        rw [e]
        have hpos := Nat.two_pow_pos (51 + (((t + 1023 : Nat) : Int) + expo x).toNat)
        by_cases hk0 : k = 0
        · rw [if_pos hk0] at h1
          generalize 2 ^ (51 + (((t + 1023 : Nat) : Int) + expo x).toNat) = P at *
          omega
        · rw [if_neg hk0] at h1
          obtain ⟨g, g1, g2⟩ := hV.out.gap (k - 1) k (by omega) (by omega)
          have := t4 g g2
          generalize 2 ^ (51 + (((t + 1023 : Nat) : Int) + expo x).toNat) = P at *
          generalize 2 ^ g = G at *
          omega
      have hnew : Hid (Fin64 (x % 9223372036854775808) ∧ (fv (x % 9223372036854775808)).natAbs = (if k + 1 = 0 then 0 else (E.getD (k + 1 - 1) 0).natAbs) ∧ 0 ≤ fv (x % 9223372036854775808)) := by
        refine Lib.hid ⟨⟨by omega, by rw [Nat.mod_mod]; exact fx.1.2⟩, ?_, ?_⟩
        · rw [if_neg (by omega), Nat.add_sub_cancel, ← fx.2, fv_abs, fv_abs, Nat.mod_mod]
        · unfold fv; rw [if_neg (by omega)]; omega
      generalize decide (fv x < 0 ∨ iw x < 0) = neg at *
      generalize hmm : mant x = mm at *
      generalize hee : expo x = ee at *
      generalize hcc : cls x = cc at *
      generalize x % 9223372036854775808 = x2 at *
      generalize iw x = ix at *
      generalize ((2 ^ t : Nat) : Int) = u at *
      generalize pw (((t + 1023 : Nat) : Int) + ee).toNat = pq at *
      generalize pw (t + 1023) = pt at *
      have hn3 : (0 : Int) ≤ (k : Int) := by omega
      have hn4 : (k : Int) < n := by omega
      clear hok fx hx0 t1 t3 t4 hy hE hV
      rcases hc1 with rfl | rfl
      · skip
        go_wp2_with (first
          | (go_at_call 60; ((with_reducible refine hC.mono ?_)); rintro en wa ⟨rfl, rfl⟩)
          | (go_at_call 96; ((with_reducible refine hP.mono ?_)); rintro en wa ⟨rfl, rfl⟩)
          | (go_at_call 136; ((with_reducible refine hL.mono ?_)); rintro en wa ⟨rfl, rfl⟩)
          | (go_at_call 61; ((with_reducible refine hFl.mono ?_)); rintro en wa ⟨rfl, rfl⟩)
          | (go_at_call 26; ((with_reducible refine hAb.mono ?_)); rintro en wa ⟨rfl, rfl⟩))
        all_goals go_round
        case rel => exact ⟨k + 1, x2, by omega, by go_num, rfl, hnew⟩
        case measure => simp [intOf]; omega
      · skip
        go_wp2_with (first
          | (go_at_call 60; ((with_reducible refine hC.mono ?_)); rintro en wa ⟨rfl, rfl⟩)
          | (go_at_call 96; ((with_reducible refine hP.mono ?_)); rintro en wa ⟨rfl, rfl⟩)
          | (go_at_call 136; ((with_reducible refine hL.mono ?_)); rintro en wa ⟨rfl, rfl⟩)
          | (go_at_call 61; ((with_reducible refine hFl.mono ?_)); rintro en wa ⟨rfl, rfl⟩)
          | (go_at_call 26; ((with_reducible refine hAb.mono ?_)); rintro en wa ⟨rfl, rfl⟩))
        all_goals go_round
        case rel => exact ⟨k + 1, x2, by omega, by go_num, rfl, hnew⟩
        case measure => simp [intOf]; omega
    · obtain rfl : k = n := by omega
      go_wp2
      go_ret
      exact ⟨rfl, rfl⟩
end
end Go.Proofs.YtllapbkoildfiaaGreatFmt
