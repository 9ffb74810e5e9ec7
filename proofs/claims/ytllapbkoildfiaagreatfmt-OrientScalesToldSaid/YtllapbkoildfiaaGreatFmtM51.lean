/- The law OrientScales is proved: three points whose coordinates are all multiplied by one power of two, where that loses nothing, have the same sign. Conditions: none of its own; the card lists eleven package-level variables and ties them to the program, and tells fmt's text. -/
import Derived.Test.YtllapbkoildfiaaGreatFmtM49
import Derived.Test.YtllapbkoildfiaaGreatFmtM50
import Derived.Test.YtllapbkoildfiaaGreatFmtCards
import Derived.Test.YtllapbkoildfiaaGreatFmtTie
import Derived.Deep.DeepWitnessRowRef
import Derived.Lib.LaidIn
import Derived.Lib.LaidU8
import Derived.Lib.TrailingZeros
import Derived.ProofKit
import Derived.Stop.JoinedAt
import Derived.Stop.Texts
import Derived.Stop.JoinedTold
import Derived.Lib.SmallJoins
import Derived.Deep.DeepWitnessRef
import Derived.SevenTiedAt
import Derived.Carry
set_option linter.all false
set_option exponentiation.threshold 100000
namespace Go.Proofs.YtllapbkoildfiaaGreatFmt
section
namespace orientScales
open Go.ChangeShapes Go.WideShapes Go.ChangeAt Go.RowKit Go.Kit Go.Joins
open Go.Extern.Stop Go.Stop Go.Extern
theorem own : ownKnob Tryz.prog.godebug = none := by kernel_rfl
theorem cells23 : Tryz.prog.cellsOf 23 = 2 := by kernel_rfl
def cellsOfData : DataW Unit → List Value
  | .lit (.int k z) => [.int k z]
  | .agg l => l.flatMap fun
    | .lit (.int k z) => [.int k z]
    | .agg m => m.flatMap fun
      | .lit (.int k z) => [.int k z]
      | _ => []
    | _ => []
  | _ => []
def put (h : Array Obj) (g : Nat) (d : DataW Unit) : Array Obj := h.modify g fun
  | .cells _ t frozen => .cells (cellsOfData d).toArray t frozen
  | o => o
noncomputable def laidWorld (os : Os) : World :=
  let w0 := World.settled Tryz.prog os
  let h0 := put (put (put w0.heap 6 Rows.laid_math_bits_deBruijn32tab) 7 Rows.laid_math_bits_deBruijn64tab) 13 Rows.laid_internal_strconv_uint64pow10
  let h1 := put (put (put h0 16 Rows.laid_unicode_utf8_acceptRanges) 11 Rows.laid_math_big_leafSize) 14 Rows.laid_math_big_divRecursiveThreshold
  let h2 := put (put (put h1 5 Rows.laid_math_big_karatsubaThreshold) 3 Rows.laid_math_big_basicSqrThreshold) 4 Rows.laid_math_big_karatsubaSqrThreshold
  let h3 := put (put h2 1 Rows.laid_plumb_span_none) 15 Rows.laid_unicode_utf8_first
  { w0 with heap := h3 }
def zeros : Array Value := #[.agg #[.int .i64 0, .int .i64 0], .agg #[.int .i64 0, .int .i64 0], .agg #[.int .i64 0, .int .i64 0], .int .i64 0]
set_option maxRecDepth 1000000 in
theorem laid_met (os : Os) : laidMet Tryz.prog Rows.orientScalesRow.laid ((laidWorld os).forCall (fun _ _ => 0) ⟨#[], zeros, []⟩).memory :=
  (LaidIn.of_run [6, 7, 13, 16, 11, 14, 5, 3, 4, 1, 15] 10 (by kernel_rfl) (by kernel_rfl) (by kernel_rfl) (by kernel_rfl)).met
theorem witness_row (os : Os) {H : Type} (enc : TypeId × Value → H) :
    (OpenSpec.ofChange Rows.orientScalesSpec).preRow enc Tryz.prog Tryz.f3 Rows.orientScalesRow.domain false Rows.orientScalesRow.laid ((laidWorld os).forCall (fun _ _ => 0) ⟨#[], zeros, []⟩).memory zeros := by
  have hw : (DataW.whole enc Tryz.prog ((laidWorld os).forCall (fun _ _ => 0) ⟨#[], zeros, []⟩).memory Tryz.f3.params.toList (OpenSpec.ofChange Rows.orientScalesSpec).vars false zeros.toList 8).map (fun x => (x.1, x.2.1)) =
      some ([.agg [.lit (.int .i64 0), .lit (.int .i64 0)], .agg [.lit (.int .i64 0), .lit (.int .i64 0)], .agg [.lit (.int .i64 0), .lit (.int .i64 0)], .lit (.int .i64 0)], []) := by kernel_rfl
  obtain ⟨⟨x1, x2, x3⟩, hx, hx1⟩ := Option.map_eq_some_iff.1 hw
  simp only [Prod.mk.injEq] at hx1
  obtain ⟨rfl, rfl⟩ := hx1
  exact OpenSpec.preRow_of_cond 8 hx (by kernel_rfl) (fun k hk => by cases hk) (by kernel_rfl) (laid_met os)
theorem int_of_reads {W : World} {n : String} {g : Nat} {t : TypeId} {k : IntKind} {z : Int} (h : Lib.VarReads Tryz.prog W n (.lit (.int k z))) (hg : Tryz.prog.globalNamed n = some g) (hty : (Tryz.prog.globals[g]?).map (·.type) = some t) (ht : Tryz.prog.underlying t = some (.int k)) :
    W.cell? ⟨g, 0, none⟩ = some (.int k z) := by
  obtain ⟨g', t', cs, fuel, p, h1, h2, h3, h4⟩ := h
  obtain rfl := Option.some.inj (hg.symm.trans h1)
  obtain rfl := Option.some.inj (hty.symm.trans h2)
  rw [World.var?_cell hg h3]
  obtain ⟨x, hc, hx, _⟩ := DataW.trod_int ht h4
  simp only [Prod.mk.injEq, DataW.lit.injEq, Lit.int.injEq] at hx
  obtain ⟨⟨-, rfl⟩, -⟩ := hx
  have := congrArg (fun l : List Value => l[0]?) hc
  simpa using this
theorem tab_of {W : World} (h : laidMet Tryz.prog Rows.orientScalesRow.laid W) : ∀ k, k < 64 → W.cell? ⟨7, k, none⟩ = some (.int .u8 (Lib.deBruijn64tab.getD k 0 : Nat)) := by
  have h1 : Lib.VarReads Tryz.prog W "math/bits.deBruijn64tab" Rows.laid_math_bits_deBruijn64tab := Lib.laidMet.reads h (by simp [Rows.orientScalesRow])
  obtain ⟨g', t', cs, fuel, p, h1, h2, h3, h4⟩ := h1
  have hg : Tryz.prog.globalNamed "math/bits.deBruijn64tab" = some 7 := by kernel_rfl
  have hty : (Tryz.prog.globals[7]?).map (·.type) = some 240 := by kernel_rfl
  obtain rfl := Option.some.inj (hg.symm.trans h1)
  obtain rfl := Option.some.inj (hty.symm.trans h2)
  have hd : (Rows.laid_math_bits_deBruijn64tab : DataW Unit) = Lib.tabData .u8 (Lib.deBruijn64tab.map fun n : Nat => (n : Int)) := by kernel_rfl
  rw [hd] at h4
  have e := Lib.cells_of_tab (k := .u8) (zs := Lib.deBruijn64tab.map fun n : Nat => (n : Int)) (n := 64) (e := 5) (by kernel_rfl) (by kernel_rfl) (by kernel_rfl) (by kernel_rfl) h4
  intro k hk
  rw [World.var?_cell hg h3, ← Array.getElem?_toList, e]
  have hl : Lib.deBruijn64tab.length = 64 := by decide
  rw [List.getElem?_map, List.getElem?_map, List.getD_eq_getElem?_getD, List.getElem?_eq_getElem (by rw [hl]; exact hk)]
  rfl
theorem kar_of {W : World} (h : laidMet Tryz.prog Rows.orientScalesRow.laid W) : W.cell? ⟨5, 0, none⟩ = some (.int .i64 40) :=
  int_of_reads (Lib.laidMet.reads h (n := "math/big.karatsubaThreshold") (d := Rows.laid_math_big_karatsubaThreshold) (by simp [Rows.orientScalesRow])) (by kernel_rfl) (t := 3) (by kernel_rfl) (by kernel_rfl)
theorem non_of {W : World} (h : laidMet Tryz.prog Rows.orientScalesRow.laid W) : W.cell? ⟨1, 0, none⟩ = some (.int .i64 0) ∧ W.cell? ⟨1, 1, none⟩ = some (.int .i64 0) := by
  have h1 : Lib.VarReads Tryz.prog W "plumb/span.none" Rows.laid_plumb_span_none := Lib.laidMet.reads h (by simp [Rows.orientScalesRow])
  obtain ⟨g', t', cs, fuel, p, h1, h2, h3, h4⟩ := h1
  have hg : Tryz.prog.globalNamed "plumb/span.none" = some 1 := by kernel_rfl
  have hty : (Tryz.prog.globals[1]?).map (·.type) = some 47 := by kernel_rfl
  obtain rfl := Option.some.inj (hg.symm.trans h1)
  obtain rfl := Option.some.inj (hty.symm.trans h2)
  have e := Lib.ints_of_struct (k := .i64) (zs := [0, 0]) Tryz.underlying47 (fun i f hi => ?_) (by kernel_rfl) (show DataW.trod (fun _ => ()) Tryz.prog W 0 (fun _ => true) false fuel 47 cs.toList = some (.agg (([0, 0] : List Int).map fun z => .lit (.int .i64 z)), p) from h4)
  · rw [World.var?_cell hg h3, World.var?_cell hg h3, ← Array.getElem?_toList, ← Array.getElem?_toList, e]
    exact ⟨rfl, rfl⟩
  · match i, hi with
    | 0, hi =>
      cases hi
      exact ⟨Tryz.underlying3, rfl, by kernel_rfl⟩
    | 1, hi =>
      cases hi
      exact ⟨Tryz.underlying3, rfl, by kernel_rfl⟩
    | i + 2, hi => cases hi
theorem bounds {b : Int} (h : (Lit.int .i64 b).wf = true) : -9223372036854775808 ≤ b ∧ b ≤ 9223372036854775807 := by
  simp [Lit.wf, IntKind.min, IntKind.max, IntKind.bits, IntKind.signed] at h
  exact ⟨by omega, by omega⟩
set_option maxRecDepth 1000000 in
set_option maxHeartbeats 4000000 in
theorem lifted (os : Os) (started : os.Started) (H : Type) (enc : TypeId × Value → H) :
    ReturnsInTold none {} Tryz.checked os 3 .any Input.okWide ((OpenSpec.ofChange Rows.orientScalesSpec).preRow enc Tryz.prog Tryz.f3 Rows.orientScalesRow.domain false Rows.orientScalesRow.laid) (fun F => ((OpenSpec.ofChange Rows.orientScalesSpec).at F).post enc Tryz.prog Tryz.f3 false true false false) (aloneAtReturn Tryz.prog) nothingAlways := by
  refine returnsInTold_of_row (C := Tryz.checked) (s := OpenSpec.ofChange Rows.orientScalesSpec) (by kernel_rfl) own started (by kernel_rfl) Tryz.func3
    (OpenSpec.witness_stopped_atRef (enc := enc) (C := Tryz.checked) false (laidWorld os) zeros rfl (by kernel_rfl) (by kernel_rfl) (by kernel_rfl) (witness_row os enc)) ?_
  intro F W base args ds gs before _ hF hval0 hW hcnd0 _ _ hL _
  clear hcnd0
  have hval : ∀ (j : Nat) t v, Tryz.f3.params[j]? = some t → args[j]? = some v → Value.okWide Tryz.prog W .any base t v := hval0
  have hW' := hW
  obtain ⟨p, q, hA0, hV, rfl, _, _⟩ := hW
  have hA : DataW.TrodAll enc Tryz.prog W 0 (fun _ => true) true Tryz.f3.params.toList args.toList ds p := hA0
  rw [Tryz.params3] at hA hval
  obtain ⟨v0, v1, v2, v3, d0, d1, d2, d3, p0, p1, p2, p3, rfl, rfl, rfl, h0, h1, h2, h3⟩ := trodAll_four hA
  obtain ⟨rfl, rfl⟩ := trodVars_none hV
  obtain ⟨c0, c1, y0, y1, m, rfl, rfl, rfl, hy0, hy1⟩ := open_agg2 Tryz.underlying23 (by kernel_rfl) cells23 (hval 0 23 v0 rfl rfl) h0
  obtain ⟨c2, c3, y2, y3, m2, rfl, rfl, rfl, hy2, hy3⟩ := open_agg2 Tryz.underlying23 (by kernel_rfl) cells23 (hval 1 23 v1 rfl rfl) h1
  obtain ⟨c4, c5, y4, y5, m3, rfl, rfl, rfl, hy4, hy5⟩ := open_agg2 Tryz.underlying23 (by kernel_rfl) cells23 (hval 2 23 v2 rfl rfl) h2
  obtain ⟨n, rfl, rfl, rfl, wn⟩ := open_int Tryz.underlying3 (hval 3 3 v3 rfl rfl) h3
  obtain ⟨a, e0, rfl, wa⟩ := DataW.trod_int Tryz.underlying3 hy0
  obtain ⟨b, e1, rfl, wb⟩ := DataW.trod_int Tryz.underlying3 hy1
  obtain ⟨c, e2, rfl, wc⟩ := DataW.trod_int Tryz.underlying3 hy2
  obtain ⟨d, e3, rfl, wd⟩ := DataW.trod_int Tryz.underlying3 hy3
  obtain ⟨e, e4, rfl, we⟩ := DataW.trod_int Tryz.underlying3 hy4
  obtain ⟨f, e5, rfl, wf⟩ := DataW.trod_int Tryz.underlying3 hy5
  simp at e0 e1 e2 e3 e4 e5
  subst e0 e1 e2 e3 e4 e5
  clear hA0 hval0
  have hL' : laidMet Tryz.prog Rows.orientScalesRow.laid W := hL
  have reads : ∀ (a b : Int) (_ : (Lit.int .i64 a).wf = true) (_ : (Lit.int .i64 b).wf = true) (W' : World) (sp : Nat → Bool), DataW.Trod enc Tryz.prog W' 0 sp true 23 (.agg #[.int .i64 a, .int .i64 b]) (.agg [.lit (.int .i64 a), .lit (.int .i64 b)]) [] := fun a b wa wb W' sp =>
    shut_agg2 (y0 := (.lit (.int .i64 a), [])) (y1 := (.lit (.int .i64 b), [])) Tryz.underlying23 (by kernel_rfl) cells23 ⟨1, by simp [DataW.trod, Tryz.underlying3, wa]⟩ ⟨1, by simp [DataW.trod, Tryz.underlying3, wb]⟩
  refine (law_any a b c d e f n (bounds wa) (bounds wb) (bounds wc) (bounds wd) (bounds we) (bounds wf) W (tab_of hL') (kar_of hL') ⟨(non_of hL').1, (non_of hL').2⟩).mono fun e' W' ⟨he, hg⟩ => ?_
  subst he
  exact ⟨_, rfl, _, _, _, [], _, [], hW', trodAll_mk1 (shut_bool Tryz.underlying4 _), trodAll_mk4 (reads a b wa wb W' _) (reads c d wc wd W' _) (reads e f we wf W' _) (shut_int Tryz.underlying3 wn), rfl, (hg.below (Nat.le_refl _) (fun _ _ h => h)).frame _, fun h => by cases h⟩
theorem quiet (os : Os) : Stop.quiet Tryz.pinned.checked.prog os := by
  intro k hk
  rw [stopKnobs] at hk
  cases hk
set_option maxRecDepth 1000000 in
theorem proved : Rows.OrientScalesToldSaid :=
  Claim7.holds_of_told_tied_any_at .later 3 Tryz.f3 "fmt.Sprintf" [] [] _ _ _ _ _ q_wf rfl rfl rfl laidOut q_maps rfl ⟨rfl, rfl, rfl, rfl, rfl, rfl, rfl⟩ rfl rfl q_tie q_fn Tryz.func3 q_read
    q_inst q_wrap stops.symm rfl stopKnobs.symm q_word
    q_in q_op q_rc q_vs q_mp q_if q_mo q_lo q_wk rfl q_vars rfl rfl
    rfl rfl
    rfl q_main q_looks q_fun (by decide) q_goes orientScales_row_tie
    (OpenClaim.moreEntering_of q_m2 q_m4 q_m5 q_m6 q_m7 q_m8 q_m9 q_m10 q_m11 q_m12)
    ⟨_, WideRow.started_initial, quiet _⟩
    (fun os started _ H enc _ => lifted os started H enc)
    ⟨q_v1, q_v2⟩
#print axioms proved
end orientScales
end
end Go.Proofs.YtllapbkoildfiaaGreatFmt
