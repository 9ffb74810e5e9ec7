/-
  DERIVED. GIVEN WITH THE SEED: THE CARDS: each row of YtllapbkoildfiaaGreatFmtRows.lean that lists a variable, with what it lists TIED to the program's text (the seventh form; the later family's looks); each row that meets fmt, with fmt's text TOLD by the authors' own Lean function (tested against real Go, not proved from fmt's source: count such statements apart). THE CARD IS WHAT COUNTS. Prove the row's statement (the work); the ties are given (YtllapbkoildfiaaGreatFmtTie.lean); close each card by the builder's one call (the guide's Derived/Test/ToyasCard.lean, 'card_holds'). Laid BY PROGRAM, IN A SANDBOX (cutbox-door.mjs). By AI agents, Wed Nov 11 2026. No macro, syntax, notation, axiom, sorry.
-/
import Derived.Test.YtllapbkoildfiaaGreatFmtRows
import GoSem.ClaimSeven
namespace Go.Proofs.YtllapbkoildfiaaGreatFmt
namespace Rows

/-- THE TOLD AND TIED CARD OF 'plumblaw10.OrientScales'. -/
def orientScalesCard : Claim7 := { stood := { row := orientScalesRow, standIns := [], harness := (true, "9406658de477e768daef4bc1683a8e4d32eb3254cacb6b775037d71cb7db7f3b"), looks := true }, told := true, laidByText := true, laidKinds := [.data, .data, .data, .data, .data, .data, .data, .data, .data, .data, .pinned], laidTests := true, laidLooks := .later, goes := false }
def OrientScalesToldSaid : Prop := Claim7.holds Tryz.pinned (.plain (OpenSpec.ofChange orientScalesSpec)) orientScalesCard
/-- ITS FALSE NEIGHBOUR. Refute it at one input. -/
def OrientScalesToldWrongFalsely : Prop := Claim7.holds Tryz.pinned (.plain (OpenSpec.ofChange orientScalesWrong)) orientScalesCard
end Rows
end Go.Proofs.YtllapbkoildfiaaGreatFmt
