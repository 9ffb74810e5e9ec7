/-
  No cell of these rows narrows 'for every input' (looked for: loops, veiled, ifaces, maps, wideKeys, modest, calm, conditions, laid).
  DERIVED. THE GIVEN ROWS OF THIS SEAT. 5 by the template 'for every input the law returns true; each argument reads behind the call as it read before'; 0 by the template 'total and deterministic' (their statements: YtbmgjbpcijbocaaTotals.lean).
  GIVEN WITH THE SEED: the statements are not yours to turn. If you find one false, say at which input.
  Laid BY PROGRAM, IN A SANDBOX (cutbox-rows.mjs): the forced cells as the released guide's own fill.sh prints them over the translation a24c4217c0a7470d… (all of the seat's roots in one cut). By AI agents, Wed Nov 11 2026. No macro, syntax, notation, axiom, sorry.
-/
import Derived.Test.YtbmgjbpcijbocaaChecked
import GoSem.Claim
import GoSem.ClaimJoined
import GoSem.ClaimMapViews
import Derived.JoinedTies
import Derived.KernelRfl
namespace Go.Proofs.Ytbmgjbpcijbocaa
/- THE CELL 'sum', in the pinned program and in every row, IS THE sha256 OF THE DUMP (.gsa) THAT YtbmgjbpcijbocaaProg.lean LOADS. Nothing in Lean hashes anything: it is a label: what it is worth is what the hold of that sum in a sandbox is worth. -/
noncomputable def Try.pinned : Pinned := { name := "ytbmgjbpcijbocaa", sum := "a24c4217c0a7470d750ad84367e7a963ae86b16632adf3099ba3e85199702062", checked := Try.checked }
namespace Rows
def none {H : Type} : Left H := { results := [], args := [] }

/-- 'plumblaw9.PointTame': WHATEVER THE INPUT: true; the input reads as it did. -/
def pointTameSpec : ChangeSpec := { name := "pointTame", fn := fun _ => fun
  | [d] => { results := [.lit (.bool true)], args := [d] }
  | _ => none }
def pointTameRow : OpenClaim := { program := "ytbmgjbpcijbocaa", sum := "a24c4217c0a7470d750ad84367e7a963ae86b16632adf3099ba3e85199702062", func := "plumb/plumblaw9.PointTame", spec := "pointTame", inPlace := ["math.Float64frombits", "math.Float64bits"], apart := false }
def PointTameSaid : Prop := pointTameRow.holds Try.pinned (OpenSpec.ofChange pointTameSpec)

/-- ITS FALSE NEIGHBOUR: 'it returns false'. Refute it at one input. -/
def pointTameWrong : ChangeSpec := { name := "pointTame", fn := fun _ => fun
  | [d] => { results := [.lit (.bool false)], args := [d] }
  | _ => none }
def PointTameWrongFalsely : Prop := pointTameRow.holds Try.pinned (OpenSpec.ofChange pointTameWrong)

/-- 'plumblaw9.PointLaws': WHATEVER THE INPUT: true; the input reads as it did. -/
def pointLawsSpec : ChangeSpec := { name := "pointLaws", fn := fun _ => fun
  | [d1, d2, d3, d4] => { results := [.lit (.bool true)], args := [d1, d2, d3, d4] }
  | _ => none }
def pointLawsRow : OpenClaim := { program := "ytbmgjbpcijbocaa", sum := "a24c4217c0a7470d750ad84367e7a963ae86b16632adf3099ba3e85199702062", func := "plumb/plumblaw9.PointLaws", spec := "pointLaws", inPlace := ["math.Float64frombits", "math.Float64bits"], apart := false }
def PointLawsSaid : Prop := pointLawsRow.holds Try.pinned (OpenSpec.ofChange pointLawsSpec)

/-- ITS FALSE NEIGHBOUR: 'it returns false'. Refute it at one input. -/
def pointLawsWrong : ChangeSpec := { name := "pointLaws", fn := fun _ => fun
  | [d1, d2, d3, d4] => { results := [.lit (.bool false)], args := [d1, d2, d3, d4] }
  | _ => none }
def PointLawsWrongFalsely : Prop := pointLawsRow.holds Try.pinned (OpenSpec.ofChange pointLawsWrong)

/-- 'plumblaw9.PointOrders': WHATEVER THE INPUT: true; the input reads as it did. -/
def pointOrdersSpec : ChangeSpec := { name := "pointOrders", fn := fun _ => fun
  | [d1, d2] => { results := [.lit (.bool true)], args := [d1, d2] }
  | _ => none }
def pointOrdersRow : OpenClaim := { program := "ytbmgjbpcijbocaa", sum := "a24c4217c0a7470d750ad84367e7a963ae86b16632adf3099ba3e85199702062", func := "plumb/plumblaw9.PointOrders", spec := "pointOrders", inPlace := ["math.Float64frombits", "math.Float64bits"], apart := false }
def PointOrdersSaid : Prop := pointOrdersRow.holds Try.pinned (OpenSpec.ofChange pointOrdersSpec)

/-- ITS FALSE NEIGHBOUR: 'it returns false'. Refute it at one input. -/
def pointOrdersWrong : ChangeSpec := { name := "pointOrders", fn := fun _ => fun
  | [d1, d2] => { results := [.lit (.bool false)], args := [d1, d2] }
  | _ => none }
def PointOrdersWrongFalsely : Prop := pointOrdersRow.holds Try.pinned (OpenSpec.ofChange pointOrdersWrong)

/-- 'plumblaw9.PointChecks': WHATEVER THE INPUT: true; the input reads as it did. -/
def pointChecksSpec : ChangeSpec := { name := "pointChecks", fn := fun _ => fun
  | [d1, d2] => { results := [.lit (.bool true)], args := [d1, d2] }
  | _ => none }
def pointChecksRow : OpenClaim := { program := "ytbmgjbpcijbocaa", sum := "a24c4217c0a7470d750ad84367e7a963ae86b16632adf3099ba3e85199702062", func := "plumb/plumblaw9.PointChecks", spec := "pointChecks", inPlace := ["math.Float64frombits", "math.Float64bits"], apart := false }
def PointChecksSaid : Prop := pointChecksRow.holds Try.pinned (OpenSpec.ofChange pointChecksSpec)

/-- ITS FALSE NEIGHBOUR: 'it returns false'. Refute it at one input. -/
def pointChecksWrong : ChangeSpec := { name := "pointChecks", fn := fun _ => fun
  | [d1, d2] => { results := [.lit (.bool false)], args := [d1, d2] }
  | _ => none }
def PointChecksWrongFalsely : Prop := pointChecksRow.holds Try.pinned (OpenSpec.ofChange pointChecksWrong)

/-- 'plumblaw9.PointSorts': WHATEVER THE INPUT: true; the input reads as it did. -/
def pointSortsSpec : ChangeSpec := { name := "pointSorts", fn := fun _ => fun
  | [d] => { results := [.lit (.bool true)], args := [d] }
  | _ => none }
def pointSortsRow : OpenClaim := { program := "ytbmgjbpcijbocaa", sum := "a24c4217c0a7470d750ad84367e7a963ae86b16632adf3099ba3e85199702062", func := "plumb/plumblaw9.PointSorts", spec := "pointSorts", inPlace := ["math.Float64frombits", "math.Float64bits"], unfollowed := true, recurses := true, apart := false }
def PointSortsSaid : Prop := pointSortsRow.holds Try.pinned (OpenSpec.ofChange pointSortsSpec)

/-- ITS FALSE NEIGHBOUR: 'it returns false'. Refute it at one input. -/
def pointSortsWrong : ChangeSpec := { name := "pointSorts", fn := fun _ => fun
  | [d] => { results := [.lit (.bool false)], args := [d] }
  | _ => none }
def PointSortsWrongFalsely : Prop := pointSortsRow.holds Try.pinned (OpenSpec.ofChange pointSortsWrong)

/- THE SECOND FORM. 'bulk': how many values and letters a reading holds, each counted each time it is reached (what is shared counts as often as it is met; a slice's spare places count too). A statement '..UptoSaid' is the law's where the arguments, and the package variables that the reading takes, are together of bulk at most 1048576: NARROWER than '..Said'. Prove '..Said' where nothing that the law and all that it calls make is longer than what came in: it says more and counts as full. Else prove '..UptoSaid'. A law counts once. -/
mutual
def uptoBulk {H : Type} : DataW H → Nat
  | .lit (.string bytes) => bytes.length + 1
  | .lit _ => 1
  | .nil => 1
  | .ptr d => uptoBulk d + 1
  | .slice elems spare => uptoBulkAll elems + uptoBulkAll spare + 1
  | .agg parts => uptoBulkAll parts + 1
  | .iface _ d => uptoBulk d + 1
  | .map entries => uptoBulkEntries entries + 1
  | .held _ => 1
def uptoBulkAll {H : Type} : List (DataW H) → Nat
  | [] => 0
  | d :: r => uptoBulk d + uptoBulkAll r
def uptoBulkEntries {H : Type} : List (Lit × DataW H) → Nat
  | [] => 0
  | x :: r => uptoBulkEntry x + uptoBulkEntries r
def uptoBulkEntry {H : Type} : Lit × DataW H → Nat
  | (.string bytes, d) => bytes.length + uptoBulk d + 1
  | (_, d) => uptoBulk d + 1
 end
def uptoSmall : (H : Type) → List (DataW H) → Bool := fun _ ds => decide (uptoBulkAll ds ≤ 1048576)
def OpenSpec.upto (s : _root_.Go.ChangeSpec) : _root_.Go.OpenSpec := { _root_.Go.OpenSpec.ofChange s with cond := some uptoSmall }

/-- 'plumblaw9.PointTame', WHERE WHAT IT READS IS OF BULK AT MOST 1048576: true; the input reads as it did. -/
def pointTameUptoRow : OpenClaim := { program := "ytbmgjbpcijbocaa", sum := "a24c4217c0a7470d750ad84367e7a963ae86b16632adf3099ba3e85199702062", func := "plumb/plumblaw9.PointTame", spec := "pointTame", inPlace := ["math.Float64frombits", "math.Float64bits"], apart := false, narrowed := true }
def PointTameUptoSaid : Prop := pointTameUptoRow.holds Try.pinned (OpenSpec.upto pointTameSpec)

/-- 'plumblaw9.PointLaws', WHERE WHAT IT READS IS OF BULK AT MOST 1048576: true; the input reads as it did. -/
def pointLawsUptoRow : OpenClaim := { program := "ytbmgjbpcijbocaa", sum := "a24c4217c0a7470d750ad84367e7a963ae86b16632adf3099ba3e85199702062", func := "plumb/plumblaw9.PointLaws", spec := "pointLaws", inPlace := ["math.Float64frombits", "math.Float64bits"], apart := false, narrowed := true }
def PointLawsUptoSaid : Prop := pointLawsUptoRow.holds Try.pinned (OpenSpec.upto pointLawsSpec)

/-- 'plumblaw9.PointOrders', WHERE WHAT IT READS IS OF BULK AT MOST 1048576: true; the input reads as it did. -/
def pointOrdersUptoRow : OpenClaim := { program := "ytbmgjbpcijbocaa", sum := "a24c4217c0a7470d750ad84367e7a963ae86b16632adf3099ba3e85199702062", func := "plumb/plumblaw9.PointOrders", spec := "pointOrders", inPlace := ["math.Float64frombits", "math.Float64bits"], apart := false, narrowed := true }
def PointOrdersUptoSaid : Prop := pointOrdersUptoRow.holds Try.pinned (OpenSpec.upto pointOrdersSpec)

/-- 'plumblaw9.PointChecks', WHERE WHAT IT READS IS OF BULK AT MOST 1048576: true; the input reads as it did. -/
def pointChecksUptoRow : OpenClaim := { program := "ytbmgjbpcijbocaa", sum := "a24c4217c0a7470d750ad84367e7a963ae86b16632adf3099ba3e85199702062", func := "plumb/plumblaw9.PointChecks", spec := "pointChecks", inPlace := ["math.Float64frombits", "math.Float64bits"], apart := false, narrowed := true }
def PointChecksUptoSaid : Prop := pointChecksUptoRow.holds Try.pinned (OpenSpec.upto pointChecksSpec)

/-- 'plumblaw9.PointSorts', WHERE WHAT IT READS IS OF BULK AT MOST 1048576: true; the input reads as it did. -/
def pointSortsUptoRow : OpenClaim := { program := "ytbmgjbpcijbocaa", sum := "a24c4217c0a7470d750ad84367e7a963ae86b16632adf3099ba3e85199702062", func := "plumb/plumblaw9.PointSorts", spec := "pointSorts", inPlace := ["math.Float64frombits", "math.Float64bits"], unfollowed := true, recurses := true, apart := false, narrowed := true }
def PointSortsUptoSaid : Prop := pointSortsUptoRow.holds Try.pinned (OpenSpec.upto pointSortsSpec)

end Rows
end Go.Proofs.Ytbmgjbpcijbocaa
