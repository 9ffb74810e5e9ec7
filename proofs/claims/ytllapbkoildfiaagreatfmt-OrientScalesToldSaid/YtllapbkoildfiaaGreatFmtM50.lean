/- OrientScales: the closed facts of the given row, one by one. -/
import Derived.Test.YtllapbkoildfiaaGreatFmtCards
import Derived.Test.YtllapbkoildfiaaGreatFmtTie
import Derived.SevenTiedAt
set_option linter.all false
namespace Go.Proofs.YtllapbkoildfiaaGreatFmt
section
namespace orientScales
set_option maxRecDepth 1000000
theorem q_wf : Rows.orientScalesRow.wfByText (OpenSpec.ofChange Rows.orientScalesSpec) = true := by kernel_rfl
theorem q_maps : mapsRowed Tryz.pinned.checked.prog = true := by kernel_rfl
theorem q_tie : namedTie Tryz.pinned.checked.prog Rows.orientScalesRow.namedList (OpenSpec.ofChange Rows.orientScalesSpec).vars = true := by kernel_rfl
theorem q_fn : Tryz.pinned.checked.prog.funcNamed Rows.orientScalesRow.func = some 3 := by kernel_rfl
theorem q_read : (Tryz.f3.params.toList.all fun t => Tryz.pinned.checked.prog.readableRec t) = true := by kernel_rfl
theorem q_inst : Tryz.f3.isInstance Tryz.pinned.checked.prog Rows.orientScalesRow.origin Rows.orientScalesRow.targs := of_decide_eq_true (by kernel_rfl)
theorem q_wrap : Tryz.f3.isWrapper Tryz.pinned.checked.prog Rows.orientScalesRow.wrapper Rows.orientScalesRow.mainSum := of_decide_eq_true (by kernel_rfl)
theorem q_word : Tryz.pinned.checked.prog.envWorded = true := by kernel_rfl
theorem q_in : Rows.orientScalesRow.inPlace = Tryz.pinned.checked.prog.inPlace 3 := by kernel_rfl
theorem q_op : Rows.orientScalesRow.unfollowed = Tryz.pinned.checked.prog.unfollowed 3 := by kernel_rfl
theorem q_rc : Rows.orientScalesRow.recurses = Tryz.pinned.checked.prog.recurses 3 := by kernel_rfl
theorem q_vs : Rows.orientScalesRow.named = Tryz.pinned.checked.prog.varsNamed 3 := by kernel_rfl
theorem q_mp : Rows.orientScalesRow.maps = (Tryz.f3.params.toList ++ (OpenSpec.ofChange Rows.orientScalesSpec).bare.plain.varTypes Tryz.pinned.checked.prog).any (Tryz.pinned.checked.prog.mapsRec ·) := by kernel_rfl
theorem q_if : Rows.orientScalesRow.ifaces = (Tryz.f3.params.toList ++ (OpenSpec.ofChange Rows.orientScalesSpec).bare.plain.varTypes Tryz.pinned.checked.prog).any (Tryz.pinned.checked.prog.ifacesRec ·) := by kernel_rfl
theorem q_mo : Rows.orientScalesRow.mapsOut = Tryz.pinned.checked.prog.mapsAmong Tryz.f3.resultTypes.toList := by kernel_rfl
theorem q_lo : Rows.orientScalesRow.loops = (Tryz.f3.params.toList ++ (OpenSpec.ofChange Rows.orientScalesSpec).bare.plain.varTypes Tryz.pinned.checked.prog).any (Tryz.pinned.checked.prog.loopsFrom ·) := by kernel_rfl
theorem q_wk : Rows.orientScalesRow.wideKeys = (Tryz.f3.params.toList ++ (OpenSpec.ofChange Rows.orientScalesSpec).bare.plain.varTypes Tryz.pinned.checked.prog ++ Tryz.f3.resultTypes.toList).any (Tryz.pinned.checked.prog.wideKeysFrom ·) := by kernel_rfl
theorem q_vars : ((OpenSpec.ofChange Rows.orientScalesSpec).vars.all fun n => Tryz.pinned.checked.prog.varReadable n) = true := by kernel_rfl
theorem q_main : Tryz.pinned.checked.prog.mainIs = some ((true, "9406658de477e768daef4bc1683a8e4d32eb3254cacb6b775037d71cb7db7f3b").1, (true, "9406658de477e768daef4bc1683a8e4d32eb3254cacb6b775037d71cb7db7f3b").2.toList) := by kernel_rfl
theorem q_looks : true = Tryz.pinned.checked.prog.looks [] := by kernel_rfl
theorem q_fun : (Tryz.f3.params.toList.all fun t => !Tryz.pinned.checked.prog.wantsStandIn t) = true := by kernel_rfl
theorem q_goes : false = Rows.orientScalesRow.goesBy Tryz.pinned.checked.prog := by kernel_rfl
theorem q_m2 : Tryz.pinned.checked.prog.mayEnter = true := by kernel_rfl
theorem q_m4 : (Tryz.f3.resultTypes.toList.all fun t => Tryz.pinned.checked.prog.readableRec t && decide (t < Tryz.pinned.checked.prog.types.size)) = true := by kernel_rfl
theorem q_m5 : Tryz.pinned.checked.prog.stopsHeard = true := by kernel_rfl
theorem q_m6 : Rows.orientScalesRow.ifacesOut = Tryz.f3.resultTypes.toList.any (Tryz.pinned.checked.prog.ifacesRec ·) := by kernel_rfl
theorem q_m7 : Rows.orientScalesRow.loopsOut = Tryz.f3.resultTypes.toList.any (Tryz.pinned.checked.prog.loopsFrom ·) := by kernel_rfl
theorem q_m8 : Rows.orientScalesRow.kinds = (if Rows.orientScalesRow.domain.isEmpty then [] else Tryz.f3.params.toList.map fun t => match Tryz.pinned.checked.prog.underlying t with | some (.int k) => some k | _ => none) := by kernel_rfl
theorem q_m9 : Rows.orientScalesRow.pinned = Rows.orientScalesRow.pinnedBy := by kernel_rfl
theorem q_m10 : Rows.orientScalesRow.plainKeys = Tryz.pinned.checked.prog.plainKeys := by kernel_rfl
theorem q_m11 : Rows.orientScalesRow.lifted = Tryz.pinned.checked.prog.liftsFinal := by kernel_rfl
theorem q_m12 : Tryz.pinned.checked.prog.make = some Rows.orientScalesRow.make := by kernel_rfl
theorem q_v1 : Rows.orientScalesRow.veiled = (Tryz.f3.params.toList ++ (OpenSpec.ofChange Rows.orientScalesSpec).bare.plain.varTypes Tryz.pinned.checked.prog ++ Tryz.f3.resultTypes.toList).any (Tryz.pinned.checked.prog.veiledRec ·) := by kernel_rfl
theorem q_v2 : Rows.orientScalesRow.veiledFits Tryz.pinned.checked.prog Tryz.f3.params.toList (Tryz.f3.params.toList ++ (OpenSpec.ofChange Rows.orientScalesSpec).bare.plain.varTypes Tryz.pinned.checked.prog ++ Tryz.f3.resultTypes.toList) = true := by kernel_rfl
theorem laidOut : laidOutB Tryz.pinned.checked.prog = true := by kernel_rfl
theorem stops : Tryz.pinned.checked.prog.stops = ["fmt.Sprintf"] := by kernel_rfl
theorem stopKnobs : Tryz.pinned.checked.prog.stopKnobs = [] := by kernel_rfl
end orientScales
end
end Go.Proofs.YtllapbkoildfiaaGreatFmt
