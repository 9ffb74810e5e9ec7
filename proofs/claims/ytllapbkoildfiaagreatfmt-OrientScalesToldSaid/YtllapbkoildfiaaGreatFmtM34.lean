/- expansion.Diff · dyadic.Of once more: the digits lie in a new block · expansion.Exact · expansion.Exact: the walk. -/
import Derived.Test.YtllapbkoildfiaaGreatFmtM33
set_option linter.all false
set_option exponentiation.threshold 100000
namespace Go.Proofs.YtllapbkoildfiaaGreatFmt
section
open Go.RowKit
theorem run_make_full' (c : Nat) (hc : c ≤ 1000000000) (w : World) :
    (Instr.makeSlice 51 (.int .i64 (c : Int)) (.int .i64 (c : Int))).run Tryz.prog w = .ok (.slice (some ⟨w.heap.size, 0, none⟩) c c) (w.alloc (zerosI c)) := by
  have i3 : (Tryz.prog.info? 3).map (fun i => (i.zero, i.size, i.bytes)) = some (some (.int .i64 0), 1, 8) := by kernel_rfl
  obtain ⟨i0, hi, hz0, hz1, hz2⟩ := info_parts i3
  have hr := run_make (P := Tryz.prog) w 51 3 i0 (.int .i64 0) (by kernel_rfl) hi hz0 .i64 .i64 (c : Int) (c : Int) (by omega) (by omega) (by rw [hz2]; omega) (by omega)
  rw [hr, hz1]
  simp only [Int.toNat_natCast, Nat.mul_one]
  have e : madeCells (Value.int .i64 0).cells c = Array.replicate c (.int .i64 0) := by
    have : (Value.int .i64 0).cells = #[.int .i64 0] := rfl
    rw [this]
    apply Array.ext
    · simp [madeCells]
    · intro i h1 h2
      simp [madeCells, Nat.mod_one]
  rw [e]
  rfl
def negL (F : List Int) : List Int := F.map fun z => -z
theorem negL_len (F : List Int) : (negL F).length = F.length := List.length_map _
theorem negL_get (F : List Int) (i : Nat) : (negL F).getD i 0 = -F.getD i 0 := by
  unfold negL
  rw [List.getD_eq_getElem?_getD, List.getD_eq_getElem?_getD, List.getElem?_map]
  cases F[i]? with
  | none => rfl
  | some v => rfl
structure NRel (w1 : World) (gb : Nat) (F : List Int) (k : Nat) (wr : World) : Prop where
  ok : ∀ i, i < k → ∃ x, wr.cell? ⟨gb, i, none⟩ = some (.int .i64 (iw x)) ∧ FV x (-F.getD i 0) ∧ -F.getD i 0 ≠ 0
  here : ∀ i, i < F.length → (wr.cell? ⟨gb, i, none⟩).isSome = true
  frz : ∀ i, wr.frozen? ⟨gb, i, none⟩ = false
  turn : Turn (fun k => k = gb) w1 wr
theorem NRel.more {w1 wr : World} {gb k x : Nat} {F : List Int} (h : NRel w1 gb F k wr) (hx : FV x (-F.getD k 0)) (h0 : -F.getD k 0 ≠ 0) (hk : k < F.length) : NRel w1 gb F (k + 1) (wr.setCell ⟨gb, k, none⟩ (.int .i64 (iw x))) := by
  obtain ⟨u, hu⟩ := Option.isSome_iff_exists.1 (h.here k hk)
  refine ⟨fun i hi => ?_, fun i hi => ?_, fun i => by rw [World.frozen?_setCell]; exact h.frz i, h.turn.setCell (p := ⟨gb, k, none⟩) (fun _ => rfl) _⟩
  · by_cases g : i = k
    · subst g; exact ⟨x, World.cell?_setCell_same _ _ _ hu, hx, h0⟩
    · obtain ⟨y, c, f, n⟩ := h.ok i (by omega)
      exact ⟨y, by rw [World.cell?_setCell_other _ _ _ _ (fun e => g (congrArg Addr.off e).symm)]; exact c, f, n⟩
  · by_cases g : i = k
    · subst g; rw [World.cell?_setCell_same _ _ _ hu]; rfl
    · rw [World.cell?_setCell_other _ _ _ _ (fun e => g (congrArg Addr.off e).symm)]; exact h.here i hi
theorem Ls.old {S : Nat → Prop} {w w' : World} {a : Option Addr} {L : List Int} (h : Ls w a L) (t : Turn S w w') (hs : ∀ k, k < w.heap.size → ¬ S k) : Ls w' a L := h.turn t fun k hk g => absurd g (hs k hk)
theorem Rl.turn9 {S : Nat → Prop} {w w' : World} {b : Nat} (h : Rl w b) (t : Turn S w w') (h0 : ¬ S b) (h1 : ¬ S (b + 1)) : Rl w' b := by
  have hl := h.lt
  exact ⟨(t.cell (p := ⟨b, 0, none⟩) (by show b < _; omega) h0).trans h.c0, (t.frozen (p := ⟨b, 0, none⟩) (by show b < _; omega) h0).trans h.f0, (t.cell (p := ⟨b + 1, 0, none⟩) hl h1).trans h.c1, (t.frozen (p := ⟨b + 1, 0, none⟩) hl h1).trans h.f1⟩
structure DOk (E F : List Int) : Prop where
  vE : Vld E
  vF : Vld F
  lE : E.length ≤ 4096
  lF : F.length ≤ 4096
  nF : F ≠ []
  g : ∀ j, j < (negL F).length → GOk (sq E (negL F) j) ((negL F).getD j 0)
  len : (sq E (negL F) (negL F).length).length ≤ 4096
set_option maxRecDepth 100000 in
set_option maxHeartbeats 4000000 in
theorem Diff_any (a f : Option Addr) (c d : Nat) (E F : List Int) (w : World) (hE : Ls w a E) (hc : E.length ≤ c) (hF : Ls w f F) (hd : F.length ≤ d) (hP : DOk E F) (hT : Tab w) :
    Calls Tryz.prog 48 #[.slice a E.length c, .slice f F.length d] w (LRes2 w (sq E (negL F) (negL F).length)) := by
  have hR := (Rl.made w).still ((Turn.refl (fun _ => False) _).alloc (.cells #[.slice a E.length c, .slice f F.length d] 51))
  have t1 := (((Turn.refl (fun _ => False) w).alloc (.cells #[.slice none 0 0] 51)).alloc (.cells #[.int .i64 0] 30)).alloc (.cells #[.slice a E.length c, .slice f F.length d] 51)
  have hcm := fun i => cell_made #[.slice a E.length c, .slice f F.length d] 51 ((w.alloc (.cells #[.slice none 0 0] 51)).alloc (.cells #[.int .i64 0] 30)) i
  rw [size_alloc, size_alloc] at hcm
  have hV := valid_all (w.heap.size + 1 + 1) 2 2 (((w.alloc (.cells #[.slice none 0 0] 51)).alloc (.cells #[.int .i64 0] 30)).alloc (.cells #[.slice a E.length c, .slice f F.length d] 51)) (by omega) (fun j hj => by
    rcases (by omega : j = 0 ∨ j = 1) with rfl | rfl
    · exact ⟨a, E, c, hcm 0, hE.still t1, hP.vE, hP.lE⟩
    · exact ⟨f, F, d, hcm 1, hF.still t1, hP.vF, hP.lF⟩)
  have hE1 := hE.still t1
  have hF1 := hF.still t1
  have hT1 := hT.still t1
  have hsz : (((w.alloc (.cells #[.slice none 0 0] 51)).alloc (.cells #[.int .i64 0] 30)).alloc (.cells #[.slice a E.length c, .slice f F.length d] 51)).heap.size = w.heap.size + 1 + 1 + 1 := by simp
  have hmk := run_make_full' F.length (Nat.le_trans hP.lF (by omega))
  have hm4 := hP.lF
  replace hR := Lib.hid hR
  replace t1 := Lib.hid t1
  replace hP := Lib.hid hP
  replace hE1 := Lib.hid hE1
  replace hF1 := Lib.hid hF1
  replace hT1 := Lib.hid hT1
  have hEw := Lib.hid hE
  have hFw := Lib.hid hF
  have hTw := Lib.hid hT
  clear hcm hE hF hT
  generalize hmm : F.length = m at *
  generalize hnn : E.length = n at *
  have hZ := Lib.hid (fun w1 : World => show NRel (w1.alloc (zerosI m)) w1.heap.size F 0 (w1.alloc (zerosI m)) from ⟨fun i hi => absurd hi (by omega), fun i hi => by rw [cell_zerosI w1 m i (by omega)]; rfl, fun i => frozen_zerosI w1 m i, Turn.refl _ _⟩)
  go_enter_defers Tryz.func48, Tryz.ntmps48
  go_wp2_with (go_at_call 69; ((with_reducible refine hV.mono ?_)); rintro en wa ⟨rfl, rfl⟩)
  have hZ1 := Lib.hid (hZ.out (((w.alloc (.cells #[.slice none 0 0] 51)).alloc (.cells #[.int .i64 0] 30)).alloc (.cells #[.slice a n c, .slice f m d] 51)))
  have tz := (Turn.refl (fun _ => False) (((w.alloc (.cells #[.slice none 0 0] 51)).alloc (.cells #[.int .i64 0] 30)).alloc (.cells #[.slice a n c, .slice f m d] 51))).alloc (zerosI m)
  have hzz := size_alloc (((w.alloc (.cells #[.slice none 0 0] 51)).alloc (.cells #[.int .i64 0] 30)).alloc (.cells #[.slice a n c, .slice f m d] 51)) (zerosI m)
  rw [hsz] at hzz
  replace hZ1 := Lib.hid (show NRel ((((w.alloc (.cells #[.slice none 0 0] 51)).alloc (.cells #[.int .i64 0] 30)).alloc (.cells #[.slice a n c, .slice f m d] 51)).alloc (zerosI m)) (w.heap.size + 1 + 1 + 1) F 0 ((((w.alloc (.cells #[.slice none 0 0] 51)).alloc (.cells #[.int .i64 0] 30)).alloc (.cells #[.slice a n c, .slice f m d] 51)).alloc (zerosI m)) from hsz ▸ hZ1.out)
  replace hR := Lib.hid (hR.out.still tz)
  replace t1 := Lib.hid (t1.out.trans' tz)
  replace hE1 := Lib.hid (hE1.out.still tz)
  replace hT1 := Lib.hid (hT1.out.still tz)
  generalize ((((w.alloc (.cells #[.slice none 0 0] 51)).alloc (.cells #[.int .i64 0] 30)).alloc (.cells #[.slice a n c, .slice f m d] 51)).alloc (zerosI m)) = w1 at *
  generalize hgb : w.heap.size + 1 + 1 + 1 = gb at *
  have hgw : w.heap.size < gb := by omega
  clear tz hsz
  go_loopw [21] (fun vi wr => ∃ (k : Nat), k ≤ m ∧ vi = .int .i64 k ∧ NRel w1 gb F k wr) (fun vi _ => m - (intOf vi).toNat)
  case atStart => exact ⟨0, Nat.zero_le _, rfl, hZ1.out⟩
  case round =>
    obtain ⟨k, hk, rfl, hrel⟩ := hrel
    have tw : Turn (fun k => k = gb) w wr := (t1.out.mono fun _ _ h => h.elim).trans' hrel.turn
    by_cases hkm : k < m
    · rcases hFw.out with h | ⟨bF, oF, rfl, hok⟩
      · rw [h] at hmm; simp at hmm; omega
      obtain ⟨xf, cf, ff', hf0⟩ := hok k (by omega)
      have hbl := World.block_lt_of_cell? w _ cf
      have c0 := (tw.cell (p := ⟨bF, oF + k, none⟩) hbl (by show ¬ bF = gb; have : bF < w.heap.size := hbl; omega)).trans cf
      have hN := Neg_word xf wr ff'.1.nn
      obtain ⟨u, hu⟩ := Option.isSome_iff_exists.1 (hrel.here k (by omega))
      have hfz := hrel.frz k
      have hrel2 := Lib.hid (hrel.more (x := opp xf) ⟨ff'.1.opp, by rw [fv_opp ff'.1.1, ff'.2]⟩ (by omega) (by omega))
      have hn1 : (0 : Int) ≤ (k : Int) := by omega
      have hn2 : (k : Int) < m := by omega
      clear hok cf ff' hf0 hrel
      go_wp2_with (go_at_call 73; ((with_reducible refine hN.mono ?_)); rintro en wa ⟨rfl, rfl⟩)
      all_goals go_roundw
      case rel => exact ⟨k + 1, by omega, by go_num, hrel2.out⟩
      case measure => simp [intOf]; omega
    · obtain rfl : k = m := by omega
      have hPo := hP.out
      have hLs : Ls wr (some ⟨gb, 0, none⟩) (negL F) := .inr ⟨gb, 0, rfl, fun i hi => by
        rw [negL_len] at hi
        obtain ⟨x, c, f, n⟩ := hrel.ok i (by omega)
        rw [Nat.zero_add, negL_get]
        exact ⟨x, c, f, n⟩⟩
      have hEr : Ls wr a E := hEw.out.old tw fun k hk e => by omega
      have hTr : Tab wr := tab_old hTw.out tw fun k hk e => by omega
      have hSm := sum_any a (some ⟨gb, 0, none⟩) c k E (negL F) wr hEr (by omega) hLs (by rw [negL_len]; omega) (fun e => hPo.nF (by
        have := congrArg List.length e
        rw [negL_len] at this
        exact List.eq_nil_of_length_eq_zero this)) hPo.g (Nat.le_trans hPo.len (by omega)) hTr (by
          rcases hEr with g | ⟨b', o', g, -⟩
          · exact .inl g
          · exact .inr ⟨b', o', g⟩)
      have hnl : (negL F).length = k := by rw [negL_len]; exact hmm
      have hlen := hPo.len
      rw [hnl, hnn] at hSm
      rw [hnl] at hlen
      have hTo := fun b e wa => etold_any b (sq E (negL F) k).length e hlen wa
      have hq := hR.out.turn9 hrel.turn (by omega) (by omega)
      have hl1 : w.heap.size + 1 < wr.heap.size := hq.lt
      have hnl2 := Lib.hid hnl
      replace hq := Lib.hid hq
      replace tw := Lib.hid tw
      replace hTo := Lib.hid hTo
      clear hPo hLs hEr hTr hrel hlen hnl
      go_wp2_with (first
        | (go_at_call 70; ((with_reducible refine hSm.mono ?_)); rintro en wa ⟨a2, c2, rfl, q1, q2, q3, q4⟩
           have hTo2 := hTo.out a2 c2 wa
           obtain ⟨r0, s0, r1, s1⟩ := hq.out.still q4
           have hq2 := Lib.hid (hq.out.still q4)
           have hfin := Lib.hid (And.intro q1 (And.intro q2 (And.intro q3 q4)))
           clear q1 q2 q3 q4)
        | (go_at_call 72; ((with_reducible refine hTo2.mono ?_)); rintro en wb ⟨rfl, rfl⟩))
      obtain ⟨⟨z0, z1⟩, hz⟩ := hq2.out.put (.slice a2 (sq E (negL F) k).length c2) (.int .i64 0)
      generalize (wa.setCell ⟨w.heap.size, 0, none⟩ (.slice a2 (sq E (negL F) k).length c2)).setCell ⟨w.heap.size + 1, 0, none⟩ (.int .i64 0) = wz at *
      refine leaves_cons (f := 68) (args := #[.pointer (some ⟨w.heap.size, 0, none⟩), .pointer (some ⟨w.heap.size + 1, 0, none⟩)]) (by simp) (by simp [go_sem]) ?_
      refine (ecaught_idle _ _ _).mono ?_
      rintro e9 u' w'' ⟨rfl, rfl, rfl⟩
      have hres : LRes2 w (sq E (negL F) (negL F).length) (.returned (.tuple #[.slice a2 (sq E (negL F) k).length c2, .int .i64 0])) w'' := by
        rw [hnl2.out]
        obtain ⟨q1, q2, q3, q4⟩ := hfin.out
        exact ⟨a2, c2, rfl, q1, q2.turn hz fun kk _ g o ha => by
          have := (q3 kk o ha).1
          omega, (tw.out.trans' (q4.mono fun _ _ g => g.elim)).trans hz (fun kk hk g => by omega) |>.mono fun kk hk g => by omega⟩
      simp [Leaves, settle, results, Tryz.results48, go_sem, z0, z1]
      exact hres
end
section
open Go.RowKit
def KResN (w : World) (K : Nat) (U : Int) (en : Ending) (w' : World) : Prop := ∃ v, en = .returned v ∧ NumK w' v K U ∧ Turn (fun _ => False) w w' ∧ NewV w v
def KRes2N (w : World) (K : Nat) (U : Int) (en : Ending) (w' : World) : Prop := ∃ v, en = .returned (.tuple #[v, .int .i64 0]) ∧ NumK w' v K U ∧ Turn (fun _ => False) w w' ∧ NewV w v
theorem NewV.older {w w0 : World} {v : Value} (h : NewV w v) (hs : w0.heap.size ≤ w.heap.size) : NewV w0 v := fun neg a n c x e => by
  rcases h neg a n c x e with g | ⟨b, g1, g2⟩
  · exact .inl g
  · exact .inr ⟨b, g1, Nat.le_trans hs g2⟩
theorem told_kN (p : Nat) (o : Option (Nat × Nat)) (m e : Int) (K : Nat) (w : World) (hI : It w p o m) (hb : bl m.natAbs ≤ 60000) (he1 : -(K : Int) ≤ e) (he2 : e ≤ 900000) (hK : K ≤ 1000000) (hT : Tab w) :
    Calls Tryz.prog 93 #[.agg #[.pointer (some ⟨p, 0, none⟩), .int .i64 e]] w (KResN w K (m * 2 ^ (e + K).toNat)) :=
  (told_any p o m e w hI hb (by omega) (fun t q h => by
    have := tz_lt (x := m.natAbs) (t := t) ⟨q, h⟩ hb
    omega) hT).mono fun en w' h => by
      obtain ⟨v, h1, h2, h3⟩ := h.k he1
      obtain ⟨v', M, E, g1, -, -, -, g2⟩ := h
      have : v = v' := by rw [h1] at g1; injection g1
      subst this
      exact ⟨v, h1, h2, h3, g2⟩
set_option maxRecDepth 100000 in
set_option maxHeartbeats 1000000 in
theorem of_anyN (neg : Bool) (m : Nat) (e : Int) (w : World) (hm : m < 9007199254740992) (he : -1074 ≤ e ∧ e ≤ 1000) (hT : Tab w) :
    Calls Tryz.prog 97 #[.bool neg, .int .i64 (m : Int), .int .i64 e, .bool true] w (KResN w 1074 ((if neg then -(m : Int) else (m : Int)) * 2 ^ (e + 1074).toNat)) := by
  generalize hx : (if neg then -(m : Int) else (m : Int)) = x
  have hxa : x.natAbs = m := by subst hx; split <;> omega
  have t0 := (Turn.refl (fun _ => False) w).alloc (.cells #[.bool false, .slice none 0 0, .int .i64 0] 53)
  have hb := Bx.made 53 w
  have hN := NewInt_any x (by rw [hxa]; omega) (w.alloc (.cells #[.bool false, .slice none 0 0, .int .i64 0] 53))
  have e1 : IntKind.i64.wrap (-(m : Int)) = -(m : Int) := by rw [IntKind.wrap_i64]; omega
  have hD : ∀ wa p o, It wa p o x → Turn (fun _ => False) (w.alloc (.cells #[.bool false, .slice none 0 0, .int .i64 0] 53)) wa → Calls Tryz.prog 93 #[.agg #[.pointer (some ⟨p, 0, none⟩), .int .i64 e]] wa (KResN wa 1074 (x * 2 ^ (e + 1074).toNat)) := fun wa p o h t =>
    told_kN p o x e 1074 wa h (Nat.le_trans (bl_le (k := 53) (by rw [hxa]; exact hm)) (by omega)) (by omega) (by omega) (by omega) ((hT.still t0).still t)
  replace hb := Lib.hid hb
  clear hxa hm he hT
  replace t0 := Lib.hid t0
  cases neg
  · have hx' : x = m := by rw [← hx]; rfl
    subst hx'
    clear hx
    go_enter Tryz.func97, Tryz.ntmps97
    go_wp2_with (first
      | (go_at_call 126; ((with_reducible refine hN.mono ?_)); rintro en wa ⟨p, o, rfl, h1, h2, h3⟩)
      | (go_at_call 93; ((with_reducible refine (hD _ _ _ h1 h3).mono ?_)); rintro en wb ⟨v, rfl, g1, g2, gN⟩
         obtain ⟨s, a, n, c, E, rfl⟩ := g1.form
         have hq := (hb.out.still h3).still g2
         obtain ⟨q0, q1, q2, f0, f1, f2, -⟩ := hq
         have hq := Lib.hid ((hb.out.still h3).still g2)
         have ht := Lib.hid ((t0.out.trans' h3).trans' g2)
         have gN2 := Lib.hid (gN.older (w0 := w) (Nat.le_trans t0.out.size h3.size))
         clear gN
         replace g1 := Lib.hid g1))
    have r := set3 (.bool s) (.slice a n c) (.int .i64 E) q0 q1 q2
    have hz := put3 wb w.heap.size (.bool s) (.slice a n c) (.int .i64 E)
    generalize ((wb.setCell ⟨w.heap.size, 0, none⟩ (.bool s)).setCell ⟨w.heap.size, 1, none⟩ (.slice a n c)).setCell ⟨w.heap.size, 2, none⟩ (.int .i64 E) = wz at *
    obtain ⟨r0, r1, r2⟩ := r
    refine bodyPost_ret (v := .agg #[.bool s, .slice a n c, .int .i64 E]) (by simp [results, Tryz.results97, go_sem, r0, r1, r2]) rfl ?_
    obtain ⟨v9, e9, e8, e7⟩ := g1.out.put ht.out hq.out (Nat.le_refl _) hz
    injection e9 with e9
    subst e9
    exact ⟨_, rfl, e8, e7, gN2.out⟩
  · have hx' : x = -(m : Int) := by rw [← hx]; rfl
    subst hx'
    clear hx
    go_enter Tryz.func97, Tryz.ntmps97
    go_wp2_with (first
      | (go_at_call 126; ((with_reducible refine hN.mono ?_)); rintro en wa ⟨p, o, rfl, h1, h2, h3⟩)
      | (go_at_call 93; ((with_reducible refine (hD _ _ _ h1 h3).mono ?_)); rintro en wb ⟨v, rfl, g1, g2, gN⟩
         obtain ⟨s, a, n, c, E, rfl⟩ := g1.form
         have hq := (hb.out.still h3).still g2
         obtain ⟨q0, q1, q2, f0, f1, f2, -⟩ := hq
         have hq := Lib.hid ((hb.out.still h3).still g2)
         have ht := Lib.hid ((t0.out.trans' h3).trans' g2)
         have gN2 := Lib.hid (gN.older (w0 := w) (Nat.le_trans t0.out.size h3.size))
         clear gN
         replace g1 := Lib.hid g1))
    have r := set3 (.bool s) (.slice a n c) (.int .i64 E) q0 q1 q2
    have hz := put3 wb w.heap.size (.bool s) (.slice a n c) (.int .i64 E)
    generalize ((wb.setCell ⟨w.heap.size, 0, none⟩ (.bool s)).setCell ⟨w.heap.size, 1, none⟩ (.slice a n c)).setCell ⟨w.heap.size, 2, none⟩ (.int .i64 E) = wz at *
    obtain ⟨r0, r1, r2⟩ := r
    refine bodyPost_ret (v := .agg #[.bool s, .slice a n c, .int .i64 E]) (by simp [results, Tryz.results97, go_sem, r0, r1, r2]) rfl ?_
    obtain ⟨v9, e9, e8, e7⟩ := g1.out.put ht.out hq.out (Nat.le_refl _) hz
    injection e9 with e9
    subst e9
    exact ⟨_, rfl, e8, e7, gN2.out⟩
set_option maxRecDepth 100000 in
set_option maxHeartbeats 1000000 in
theorem Of_anyN (n : Nat) (w : World) (h : Fin64 n) (hT : Tab w) : Calls Tryz.prog 67 #[.int .i64 (iw n)] w (KRes2N w 1074 (fv n)) := by
  have t0 := (Turn.refl (fun _ => False) w).alloc (.cells #[.bool false, .slice none 0 0, .int .i64 0] 53)
  have t1 := t0.alloc (.cells #[.int .i64 0] 30)
  have hb := (Bx.made 53 w).still ((Turn.refl (fun _ => False) _).alloc (.cells #[.int .i64 0] 30))
  have hc := cell_made #[.int .i64 0] 30 (w.alloc (.cells #[.bool false, .slice none 0 0, .int .i64 0] 53)) 0
  have hf := frozen_made #[.int .i64 0] 30 (w.alloc (.cells #[.bool false, .slice none 0 0, .int .i64 0] 53)) 0
  have hs : ((w.alloc (.cells #[.bool false, .slice none 0 0, .int .i64 0] 53)).alloc (.cells #[.int .i64 0] 30)).heap.size = w.heap.size + 1 + 1 := by simp
  rw [size_alloc] at hc hf
  have hl : w.heap.size + 1 < ((w.alloc (.cells #[.bool false, .slice none 0 0, .int .i64 0] 53)).alloc (.cells #[.int .i64 0] 30)).heap.size := by rw [hs]; omega
  have hl := Lib.hid hl
  have hrest : ∀ i, 1 ≤ i → ((w.alloc (.cells #[.bool false, .slice none 0 0, .int .i64 0] 53)).alloc (.cells #[.int .i64 0] 30)).cell? ⟨w.heap.size + 1, i, none⟩ = none := fun i hi => by
    rw [← size_alloc w (.cells #[.bool false, .slice none 0 0, .int .i64 0] 53), cell_made]
    exact Array.getElem?_eq_none (by simpa using hi)
  replace hrest := Lib.hid hrest
  have hP := Parts_any n
  have hO := of_anyN (decide (fv n < 0 ∨ iw n < 0)) (mant n) (expo n) ((w.alloc (.cells #[.bool false, .slice none 0 0, .int .i64 0] 53)).alloc (.cells #[.int .i64 0] 30)) (mant_lt n) (expo_le h) (hT.still t1)
  rw [fv_parts h] at hO
  generalize decide (fv n < 0 ∨ iw n < 0) = neg at *
  generalize mant n = m at *
  generalize expo n = e at *
  have hP := fun w => hP w h
  generalize fv n = z at *
  clear h hT
  replace hb := Lib.hid hb
  replace t0 := Lib.hid t0
  replace t1 := Lib.hid t1
  replace hs := Lib.hid hs
  go_enter_defers Tryz.func67, Tryz.ntmps67
  go_wp2_with (first
    | (go_at_call 96; ((with_reducible refine (hP _).mono ?_)); rintro en wa ⟨rfl, rfl⟩)
    | (go_at_call 97; ((with_reducible refine hO.mono ?_)); rintro en wb ⟨v, rfl, g1, g2, gN⟩
       obtain ⟨s, a, k, c, E, rfl⟩ := g1.form
       have gN2 := Lib.hid (gN.older (w0 := w) t1.out.size)
       clear gN
       have hq := hb.out.still g2
       obtain ⟨q0, q1, q2, f0, f1, f2, -⟩ := hq
       have hq := Lib.hid (hb.out.still g2)
       have ht := Lib.hid (t1.out.trans' g2)
       have d0 := (g2.cell (p := ⟨w.heap.size + 1, 0, none⟩) hl.out id).trans hc
       have dr := Lib.hid (fun i (hi : 1 ≤ i) => (g2.cell (p := ⟨w.heap.size + 1, i, none⟩) hl.out id).trans (hrest.out i hi))
       have d1 := (g2.frozen (p := ⟨w.heap.size + 1, 0, none⟩) hl.out id).trans hf
       replace g1 := Lib.hid g1
       replace g2 := Lib.hid g2))
  obtain ⟨r, hz⟩ := put4 (b := w.heap.size) (b' := w.heap.size + 1) (by omega) (.bool s) (.slice a k c) (.int .i64 E) (.int .i64 0) q0 q1 q2 d0
  generalize ((((wb.setCell ⟨w.heap.size, 0, none⟩ (.bool s)).setCell ⟨w.heap.size, 1, none⟩ (.slice a k c)).setCell ⟨w.heap.size, 2, none⟩ (.int .i64 E)).setCell ⟨w.heap.size + 1, 0, none⟩ (.int .i64 0)) = wz at *
  obtain ⟨r0, r1, r2, r3⟩ := r
  refine leaves_cons (f := 62) (args := #[.pointer (some ⟨w.heap.size + 1, 0, none⟩)]) (by simp) (by simp [go_sem]) ?_
  refine (caught_idle _ _).mono ?_
  rintro e u' w'' ⟨rfl, rfl, rfl⟩
  obtain ⟨v9, e9, e8, e7⟩ := g1.out.put2 (u3 := .nilIface) ht.out hq.out (Nat.le_refl _) (Nat.le_succ _) d0 dr.out hz rfl
  have hfin : KRes2N w 1074 z (.returned (.tuple #[.agg #[.bool s, .slice a k c, .int .i64 E], .int .i64 0])) w'' := by
    injection e9 with e9
    injection e9 with e9
    have e9 := congrArg Array.toList e9
    simp only [List.cons.injEq, and_true] at e9
    subst e9
    exact ⟨_, rfl, e8, e7, gN2.out⟩
  simp [Leaves, settle, results, Tryz.results67, go_sem, r0, r1, r2, r3]
  exact hfin
end
section
open Go.RowKit
def zerosN (c : Nat) : Obj := .cells (Array.ofFn (n := c * 3) fun i => if i.val % 3 = 0 then .bool false else if i.val % 3 = 1 then .slice none 0 0 else .int .i64 0) 53
theorem run_make_num (c : Nat) (hc : c ≤ 1000000) (w : World) :
    (Instr.makeSlice 108 (.int .i64 (c : Int)) (.int .i64 (c : Int))).run Tryz.prog w = .ok (.slice (some ⟨w.heap.size, 0, none⟩) c c) (w.alloc (zerosN c)) := by
  have i3 : (Tryz.prog.info? 53).map (fun i => (i.zero, i.size, i.bytes)) = some (some (.agg #[.bool false, .slice none 0 0, .int .i64 0]), 3, 40) := by kernel_rfl
  obtain ⟨i0, hi, hz0, hz1, hz2⟩ := info_parts i3
  have hr := run_make (P := Tryz.prog) w 108 53 i0 (.agg #[.bool false, .slice none 0 0, .int .i64 0]) (by kernel_rfl) hi hz0 .i64 .i64 (c : Int) (c : Int) (by omega) (by omega) (by rw [hz2]; omega) (by omega)
  rw [hr, hz1]
  simp only [Int.toNat_natCast]
  have e : madeCells (Value.agg #[.bool false, .slice none 0 0, .int .i64 0]).cells (c * 3) = Array.ofFn (n := c * 3) fun i => if i.val % 3 = 0 then (.bool false : Value) else if i.val % 3 = 1 then .slice none 0 0 else .int .i64 0 := by
    have : (Value.agg #[.bool false, .slice none 0 0, .int .i64 0]).cells = #[.bool false, .slice none 0 0, .int .i64 0] := by simp [Value.cells]
    rw [this]
    apply Array.ext
    · simp [madeCells]
    · intro i h1 h2
      simp only [madeCells, Array.getElem_ofFn]
      rcases (by omega : i % 3 = 0 ∨ i % 3 = 1 ∨ i % 3 = 2) with g | g | g <;> simp [g]
  rw [e]
  rfl
theorem here_zerosN (w : World) (c i : Nat) (hi : i < c * 3) : ((w.alloc (zerosN c)).cell? ⟨w.heap.size, i, none⟩).isSome = true := by
  unfold zerosN
  rw [cell_made, Array.getElem?_ofFn, dif_pos hi]
  rfl
theorem frozen_zerosN (w : World) (c i : Nat) : (w.alloc (zerosN c)).frozen? ⟨w.heap.size, i, none⟩ = false := frozen_made _ _ _ _
theorem NumK.elsewhere {w w' : World} {b K : Nat} {U : Int} {s : Bool} {a : Option Addr} {k c : Nat} {E : Int} (h : NumK w (.agg #[.bool s, .slice a k c, .int .i64 E]) K U) (t : Turn (fun j => j = b) w w') (hd : k = 0 ∨ ∃ b', a = some ⟨b', 0, none⟩ ∧ b < b') : NumK w' (.agg #[.bool s, .slice a k c, .int .i64 E]) K U := by
  obtain ⟨M, E', ⟨neg, a', n', c', d, e, h⟩, h2, h3⟩ := h
  have e0 := e
  injection e with e
  have e' := congrArg Array.toList e
  simp only [List.cons.injEq, Value.bool.injEq, Value.slice.injEq, Value.int.injEq, and_true, true_and] at e'
  obtain ⟨rfl, ⟨rfl, rfl, rfl⟩, rfl⟩ := e'
  refine ⟨M, _, ⟨_, _, _, _, d, rfl, h.sgn, ?_, h.le, h.val, h.hi, h.lo, h.exp1, h.exp2, h.zero⟩, h2, h3⟩
  rcases h.ds with g | ⟨b1, o1, g1, g2⟩
  · exact .inl g
  · rcases hd with g | ⟨b', g3, g4⟩
    · exact .inl g
    · rw [g1] at g3
      have hb : b1 = b' := congrArg Addr.block (Option.some.inj g3)
      exact .inr ⟨b1, o1, g1, g2.turn t (by show ¬ b1 = b; omega)⟩
structure XRel (w1 : World) (gb : Nat) (E : List Int) (k : Nat) (wr : World) : Prop where
  ok : ∀ j, j < k → ∃ s a n c X, wr.cell? ⟨gb, j * 3, none⟩ = some (.bool s) ∧ wr.cell? ⟨gb, j * 3 + 1, none⟩ = some (.slice a n c) ∧ wr.cell? ⟨gb, j * 3 + 2, none⟩ = some (.int .i64 X) ∧
    NumK wr (.agg #[.bool s, .slice a n c, .int .i64 X]) 1074 (E.getD j 0) ∧ (n = 0 ∨ ∃ b', a = some ⟨b', 0, none⟩ ∧ gb < b')
  here : ∀ i, i < E.length * 3 → (wr.cell? ⟨gb, i, none⟩).isSome = true
  frz : ∀ i, wr.frozen? ⟨gb, i, none⟩ = false
  turn : Turn (fun k => k = gb) w1 wr
  lt : gb < wr.heap.size
theorem XRel.still {w1 wr w' : World} {gb k : Nat} {E : List Int} (h : XRel w1 gb E k wr) (t : Turn (fun _ => False) wr w') : XRel w1 gb E k w' :=
  ⟨fun j hj => by
    obtain ⟨s, a, n, c, X, c0, c1, c2, hn, hd⟩ := h.ok j hj
    exact ⟨s, a, n, c, X, (t.cell (p := ⟨gb, _, none⟩) h.lt id).trans c0, (t.cell (p := ⟨gb, _, none⟩) h.lt id).trans c1, (t.cell (p := ⟨gb, _, none⟩) h.lt id).trans c2, hn.still t, hd⟩,
   fun i hi => by rw [t.cell (p := ⟨gb, i, none⟩) h.lt id]; exact h.here i hi, fun i => (t.frozen (p := ⟨gb, i, none⟩) h.lt id).trans (h.frz i), h.turn.trans' (t.mono fun _ _ g => g.elim), Nat.lt_of_lt_of_le h.lt t.size⟩
theorem XRel.more {w1 wr wz : World} {gb k : Nat} {E : List Int} {s : Bool} {a : Option Addr} {n c : Nat} {X : Int} (h : XRel w1 gb E k wr) (hk : k < E.length) (hn : NumK wr (.agg #[.bool s, .slice a n c, .int .i64 X]) 1074 (E.getD k 0)) (hd : n = 0 ∨ ∃ b', a = some ⟨b', 0, none⟩ ∧ gb < b')
    (e : wz = ((wr.setCell ⟨gb, k * 3, none⟩ (.bool s)).setCell ⟨gb, k * 3 + 1, none⟩ (.slice a n c)).setCell ⟨gb, k * 3 + 2, none⟩ (.int .i64 X)) : XRel w1 gb E (k + 1) wz := by
  subst e
  obtain ⟨u0, h0⟩ := Option.isSome_iff_exists.1 (h.here (k * 3) (by omega))
  obtain ⟨u1, h1⟩ := Option.isSome_iff_exists.1 (h.here (k * 3 + 1) (by omega))
  obtain ⟨u2, h2⟩ := Option.isSome_iff_exists.1 (h.here (k * 3 + 2) (by omega))
  have hR : Rw gb (k * 3) (k * 3 + 3) wr (((wr.setCell ⟨gb, k * 3, none⟩ (.bool s)).setCell ⟨gb, k * 3 + 1, none⟩ (.slice a n c)).setCell ⟨gb, k * 3 + 2, none⟩ (.int .i64 X)) :=
    (((Rw.refl gb (k * 3) (k * 3 + 3) wr).set (by omega) (by omega) _).set (by omega) (by omega) _).set (by omega) (by omega) _
  have c0 : (((wr.setCell ⟨gb, k * 3, none⟩ (.bool s)).setCell ⟨gb, k * 3 + 1, none⟩ (.slice a n c)).setCell ⟨gb, k * 3 + 2, none⟩ (.int .i64 X)).cell? ⟨gb, k * 3, none⟩ = some (.bool s) := by
    rw [World.cell?_setCell_other _ _ _ _ (fun e => absurd (congrArg Addr.off e) (by show ¬ (k * 3 + 2 = k * 3); omega)), World.cell?_setCell_other _ _ _ _ (fun e => absurd (congrArg Addr.off e) (by show ¬ (k * 3 + 1 = k * 3); omega))]
    exact World.cell?_setCell_same _ _ _ h0
  have c1 : (((wr.setCell ⟨gb, k * 3, none⟩ (.bool s)).setCell ⟨gb, k * 3 + 1, none⟩ (.slice a n c)).setCell ⟨gb, k * 3 + 2, none⟩ (.int .i64 X)).cell? ⟨gb, k * 3 + 1, none⟩ = some (.slice a n c) := by
    rw [World.cell?_setCell_other _ _ _ _ (fun e => absurd (congrArg Addr.off e) (by show ¬ (k * 3 + 2 = k * 3 + 1); omega))]
    exact World.cell?_setCell_same _ _ _ ((World.cell?_setCell_other _ _ _ _ (fun e => absurd (congrArg Addr.off e) (by show ¬ (k * 3 = k * 3 + 1); omega))).trans h1)
  have c2 : (((wr.setCell ⟨gb, k * 3, none⟩ (.bool s)).setCell ⟨gb, k * 3 + 1, none⟩ (.slice a n c)).setCell ⟨gb, k * 3 + 2, none⟩ (.int .i64 X)).cell? ⟨gb, k * 3 + 2, none⟩ = some (.int .i64 X) :=
    World.cell?_setCell_same _ _ _ ((World.cell?_setCell_other _ _ _ _ (fun e => absurd (congrArg Addr.off e) (by show ¬ (k * 3 + 1 = k * 3 + 2); omega))).trans ((World.cell?_setCell_other _ _ _ _ (fun e => absurd (congrArg Addr.off e) (by show ¬ (k * 3 = k * 3 + 2); omega))).trans h2))
  refine ⟨fun j hj => ?_, fun i hi => ?_, fun i => (hR.frz i).trans (h.frz i), h.turn.trans' hR.turn, Nat.lt_of_lt_of_le h.lt hR.turn.size⟩
  · by_cases g : j = k
    · subst g
      exact ⟨s, a, n, c, X, c0, c1, c2, hn.elsewhere hR.turn hd, hd⟩
    · obtain ⟨s', a', n', c', X', e0, e1, e2, en, ed⟩ := h.ok j (by omega)
      exact ⟨s', a', n', c', X', (hR.out _ (by omega)).trans e0, (hR.out _ (by omega)).trans e1, (hR.out _ (by omega)).trans e2, en.elsewhere hR.turn ed, ed⟩
  · by_cases g : k * 3 ≤ i ∧ i < k * 3 + 3
    · rcases (by omega : i = k * 3 ∨ i = k * 3 + 1 ∨ i = k * 3 + 2) with rfl | rfl | rfl
      · rw [c0]; rfl
      · rw [c1]; rfl
      · rw [c2]; rfl
    · rw [hR.out i g]; exact h.here i hi
theorem XRel.nms {w1 wr : World} {gb k : Nat} {E : List Int} (h : XRel w1 gb E k wr) : Nms wr gb 0 k 1074 (fun j => E.getD j 0) := fun j hj => by
  obtain ⟨s, a, n, c, X, c0, c1, c2, hn, -⟩ := h.ok j hj
  exact ⟨s, a, n, c, X, by rw [Nat.zero_add]; exact c0, by rw [Nat.zero_add]; exact c1, by rw [Nat.zero_add]; exact c2, hn⟩
end
section
open Go.RowKit
set_option maxRecDepth 100000 in
set_option maxHeartbeats 4000000 in
theorem eExact_any (a : Option Addr) (c : Nat) (E : List Int) (w : World) (hE : Ls w a E) (hV : Vld E) (hn : E.length ≤ 1000) (hT : Tab w) :
    Calls Tryz.prog 49 #[.slice a E.length c] w (KRes2 w 1074 (psum (fun j => E.getD j 0) E.length)) := by
  have t1 := ((Turn.refl (fun _ => False) w).alloc (.cells #[.bool false, .slice none 0 0, .int .i64 0] 53)).alloc (.cells #[.slice a E.length c] 51)
  have hb := (Bx.made 53 w).still ((Turn.refl (fun _ => False) _).alloc (.cells #[.slice a E.length c] 51))
  have hcm := fun i => cell_made #[.slice a E.length c] 51 (w.alloc (.cells #[.bool false, .slice none 0 0, .int .i64 0] 53)) i
  rw [size_alloc] at hcm
  have hA := valid_all (w.heap.size + 1) 1 1 ((w.alloc (.cells #[.bool false, .slice none 0 0, .int .i64 0] 53)).alloc (.cells #[.slice a E.length c] 51)) (by omega) (fun j hj => by
    obtain rfl : j = 0 := by omega
    exact ⟨a, E, c, hcm 0, hE.still t1, hV, by omega⟩)
  have hsz : ((w.alloc (.cells #[.bool false, .slice none 0 0, .int .i64 0] 53)).alloc (.cells #[.slice a E.length c] 51)).heap.size = w.heap.size + 1 + 1 := by simp
  have hmk := run_make_num E.length (by omega)
  have hlt := hV.lt
  replace hb := Lib.hid hb
  replace t1 := Lib.hid t1
  have hEw := Lib.hid hE
  have hTw := Lib.hid hT
  replace hlt := Lib.hid hlt
  clear hcm hE hV hT
  generalize hnn : E.length = n at *
  have hZ := Lib.hid (fun w1 : World => show XRel (w1.alloc (zerosN n)) w1.heap.size E 0 (w1.alloc (zerosN n)) from ⟨fun i hi => absurd hi (by omega), fun i hi => here_zerosN w1 n i (by omega), fun i => frozen_zerosN w1 n i, Turn.refl _ _, by rw [size_alloc]; exact Nat.lt_succ_self _⟩)
  go_enter Tryz.func49, Tryz.ntmps49
  go_wp2_with (go_at_call 69; ((with_reducible refine hA.mono ?_)); rintro en wa ⟨rfl, rfl⟩)
  have hZ1 := hZ.out ((w.alloc (.cells #[.bool false, .slice none 0 0, .int .i64 0] 53)).alloc (.cells #[.slice a n c] 51))
  have tz := (Turn.refl (fun _ => False) ((w.alloc (.cells #[.bool false, .slice none 0 0, .int .i64 0] 53)).alloc (.cells #[.slice a n c] 51))).alloc (zerosN n)
  have hzz := size_alloc ((w.alloc (.cells #[.bool false, .slice none 0 0, .int .i64 0] 53)).alloc (.cells #[.slice a n c] 51)) (zerosN n)
  rw [hsz] at hzz hZ1
  replace hZ1 := Lib.hid hZ1
  replace hb := Lib.hid (hb.out.still tz)
  replace t1 := Lib.hid (t1.out.trans' tz)
  generalize (((w.alloc (.cells #[.bool false, .slice none 0 0, .int .i64 0] 53)).alloc (.cells #[.slice a n c] 51)).alloc (zerosN n)) = w1 at *
  generalize hgb : w.heap.size + 1 + 1 = gb at *
  have hgw : w.heap.size < gb := by omega
  clear tz hsz hZ
  go_loopw [19] (fun vi wr => ∃ (k : Nat), k ≤ n ∧ vi = .int .i64 k ∧ XRel w1 gb E k wr) (fun vi _ => n - (intOf vi).toNat)
  case atStart => exact ⟨0, Nat.zero_le _, rfl, hZ1.out⟩
  case round =>
    obtain ⟨k, hk, rfl, hrel⟩ := hrel
    have tw : Turn (fun k => k = gb) w wr := (t1.out.mono fun _ _ h => h.elim).trans' hrel.turn
    by_cases hkn : k < n
    · rcases hEw.out with h | ⟨bE, oE, rfl, hok⟩
      · rw [h] at hnn; simp at hnn; omega
      obtain ⟨x, cx, fx, -⟩ := hok k (by omega)
      have hbl := World.block_lt_of_cell? w _ cx
      have c0 := (tw.cell (p := ⟨bE, oE + k, none⟩) hbl (by show ¬ bE = gb; have : bE < w.heap.size := hbl; omega)).trans cx
      have hO := Of_anyN x wr fx.1 (tab_old hTw.out tw fun k hk e => by omega)
      rw [fx.2] at hO
      obtain ⟨u0, h0⟩ := Option.isSome_iff_exists.1 (hrel.here (k * 3) (by omega))
      obtain ⟨u1, h1⟩ := Option.isSome_iff_exists.1 (hrel.here (k * 3 + 1) (by omega))
      obtain ⟨u2, h2⟩ := Option.isSome_iff_exists.1 (hrel.here (k * 3 + 2) (by omega))
      have f0 := hrel.frz (k * 3)
      have f1 := hrel.frz (k * 3 + 1)
      have f2 := hrel.frz (k * 3 + 2)
      have hgl := hrel.lt
      have hn1 : (0 : Int) ≤ (k : Int) := by omega
      have hn2 : (k : Int) < n := by omega
      replace hrel := Lib.hid hrel
      clear hok cx fx
      go_wp2_with (go_at_call 67; ((with_reducible refine hO.mono ?_)); rintro en wa ⟨v, rfl, g1, g2, g3⟩
                   obtain ⟨s, a', kk, c', X, rfl⟩ := g1.form
                   have e0 := (g2.cell (p := ⟨gb, k * 3, none⟩) hgl id).trans h0
                   have e1 := (g2.cell (p := ⟨gb, k * 3 + 1, none⟩) hgl id).trans h1
                   have e2 := (g2.cell (p := ⟨gb, k * 3 + 2, none⟩) hgl id).trans h2
                   have j0 := (g2.frozen (p := ⟨gb, k * 3, none⟩) hgl id).trans f0
                   have j1 := (g2.frozen (p := ⟨gb, k * 3 + 1, none⟩) hgl id).trans f1
                   have j2 := (g2.frozen (p := ⟨gb, k * 3 + 2, none⟩) hgl id).trans f2
                   have hfin := Lib.hid (fun wz => (hrel.out.still g2).more (wz := wz) (k := k) (by omega) g1 (by
                     rcases g3 _ _ _ _ _ rfl with g | ⟨b', g4, g5⟩
                     · exact .inl g
                     · exact .inr ⟨b', g4, by omega⟩))
                   clear g1 g2 g3 h0 h1 h2 f0 f1 f2)
      have hst := Lib.hid (hfin.out _ rfl)
      clear hfin e0 e1 e2 j0 j1 j2
      generalize ((wa.setCell ⟨gb, k * 3, none⟩ (.bool s)).setCell ⟨gb, k * 3 + 1, none⟩ (.slice a' kk c')).setCell ⟨gb, k * 3 + 2, none⟩ (.int .i64 X) = wz at *
      all_goals go_roundw
      case rel => exact ⟨k + 1, by omega, by go_num, hst.out⟩
      case measure => simp [intOf]; omega
    · obtain rfl : k = n := by omega
      have hS := Sum_any gb 0 k k 1074 (some ⟨gb, 0, none⟩) (fun j => E.getD j 0) wr (by omega) (by omega) (.inr rfl) hrel.nms (fun j hj => Nat.lt_trans (hlt.out j (by omega)) (Nat.pow_lt_pow_right (by omega) (by omega))) (tab_old hTw.out tw fun k hk e => by omega)
      have hbr := hb.out.turn hrel.turn (show ¬ w.heap.size = gb by omega)
      have htt : Turn (fun _ => False) w wr := tw.trans (Turn.refl (fun _ => False) wr) (fun _ _ g => g.elim) |>.mono fun kk hk g => by omega
      replace hbr := Lib.hid hbr
      replace htt := Lib.hid htt
      clear hrel
      go_wp2_with (go_at_call 74; ((with_reducible refine hS.mono ?_)); rintro en wa ⟨v, rfl, g1, g2⟩
                   obtain ⟨s, a', kk, c', X, rfl⟩ := g1.form
                   obtain ⟨q0, q1, q2, j0, j1, j2, -⟩ := hbr.out.still g2
                   have hq := Lib.hid (hbr.out.still g2)
                   have ht := Lib.hid (htt.out.trans' g2)
                   replace g1 := Lib.hid g1
                   clear g2)
      obtain ⟨r0, r1, r2⟩ := set3 (.bool s) (.slice a' kk c') (.int .i64 X) q0 q1 q2
      have hz := put3 wa w.heap.size (.bool s) (.slice a' kk c') (.int .i64 X)
      generalize ((wa.setCell ⟨w.heap.size, 0, none⟩ (.bool s)).setCell ⟨w.heap.size, 1, none⟩ (.slice a' kk c')).setCell ⟨w.heap.size, 2, none⟩ (.int .i64 X) = wz at *
      refine bodyPost_ret (v := .tuple #[.agg #[.bool s, .slice a' kk c', .int .i64 X], .int .i64 0]) (by simp [results, Tryz.results49, go_sem, r0, r1, r2]) rfl ?_
      obtain ⟨v9, e9, e8, e7⟩ := g1.out.put ht.out hq.out (Nat.le_refl _) hz
      injection e9 with e9
      subst e9
      exact ⟨_, rfl, e8, e7⟩
end
end Go.Proofs.YtllapbkoildfiaaGreatFmt
