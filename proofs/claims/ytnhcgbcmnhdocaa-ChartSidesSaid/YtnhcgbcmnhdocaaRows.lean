/-
  No cell of these rows narrows 'for every input' (looked for: loops, veiled, ifaces, maps, wideKeys, modest, calm, conditions, laid).
  DERIVED. THE GIVEN ROWS OF THIS SEAT. 9 by the template 'for every input the law returns true; each argument reads behind the call as it read before'; 0 by the template 'total and deterministic' (their statements: YtnhcgbcmnhdocaaTotals.lean).
  GIVEN WITH THE SEED: the statements are not yours to turn. If you find one false, say at which input.
  Laid BY PROGRAM, IN A SANDBOX (cutbox-rows.mjs): the forced cells as the released guide's own fill.sh prints them over the translation 4f05b186814da7f1… (all of the seat's roots in one cut). By AI agents, Wed Nov 11 2026. No macro, syntax, notation, axiom, sorry.
-/
import Derived.Test.YtnhcgbcmnhdocaaChecked
import GoSem.Claim
import GoSem.ClaimJoined
import GoSem.ClaimMapViews
import Derived.JoinedTies
import Derived.KernelRfl
namespace Go.Proofs.Ytnhcgbcmnhdocaa
/- THE CELL 'sum', in the pinned program and in every row, IS THE sha256 OF THE DUMP (.gsa) THAT YtnhcgbcmnhdocaaProg.lean LOADS. Nothing in Lean hashes anything: it is a label: what it is worth is what the hold of that sum in a sandbox is worth. -/
noncomputable def Try.pinned : Pinned := { name := "ytnhcgbcmnhdocaa", sum := "4f05b186814da7f1cafcf768f14c95c2b3d3d716a214ef9511ee6dfcaeba9470", checked := Try.checked }
namespace Rows
def none {H : Type} : Left H := { results := [], args := [] }

/-- 'agoniclaw07.ChartSides': WHATEVER THE INPUT: true; the input reads as it did. -/
def chartSidesSpec : ChangeSpec := { name := "chartSides", fn := fun _ => fun
  | [d1, d2, d3, d4] => { results := [.lit (.bool true)], args := [d1, d2, d3, d4] }
  | _ => none }
def chartSidesRow : OpenClaim := { program := "ytnhcgbcmnhdocaa", sum := "4f05b186814da7f1cafcf768f14c95c2b3d3d716a214ef9511ee6dfcaeba9470", func := "agonic/agoniclaw07.ChartSides", spec := "chartSides", unfollowed := true, recurses := true, plainKeys := false, apart := false }
def ChartSidesSaid : Prop := chartSidesRow.holds Try.pinned (OpenSpec.ofChange chartSidesSpec)

/-- ITS FALSE NEIGHBOUR: 'it returns false'. Refute it at one input. -/
def chartSidesWrong : ChangeSpec := { name := "chartSides", fn := fun _ => fun
  | [d1, d2, d3, d4] => { results := [.lit (.bool false)], args := [d1, d2, d3, d4] }
  | _ => none }
def ChartSidesWrongFalsely : Prop := chartSidesRow.holds Try.pinned (OpenSpec.ofChange chartSidesWrong)

/-- 'agoniclaw07.ChartCover': WHATEVER THE INPUT: true; the input reads as it did. -/
def chartCoverSpec : ChangeSpec := { name := "chartCover", fn := fun _ => fun
  | [d1, d2] => { results := [.lit (.bool true)], args := [d1, d2] }
  | _ => none }
def chartCoverRow : OpenClaim := { program := "ytnhcgbcmnhdocaa", sum := "4f05b186814da7f1cafcf768f14c95c2b3d3d716a214ef9511ee6dfcaeba9470", func := "agonic/agoniclaw07.ChartCover", spec := "chartCover", unfollowed := true, recurses := true, plainKeys := false, apart := false }
def ChartCoverSaid : Prop := chartCoverRow.holds Try.pinned (OpenSpec.ofChange chartCoverSpec)

/-- ITS FALSE NEIGHBOUR: 'it returns false'. Refute it at one input. -/
def chartCoverWrong : ChangeSpec := { name := "chartCover", fn := fun _ => fun
  | [d1, d2] => { results := [.lit (.bool false)], args := [d1, d2] }
  | _ => none }
def ChartCoverWrongFalsely : Prop := chartCoverRow.holds Try.pinned (OpenSpec.ofChange chartCoverWrong)

/-- 'agoniclaw07.ChartEmpty': WHATEVER THE INPUT: true; the input reads as it did. -/
def chartEmptySpec : ChangeSpec := { name := "chartEmpty", fn := fun _ => fun
  | [d1, d2] => { results := [.lit (.bool true)], args := [d1, d2] }
  | _ => none }
def chartEmptyRow : OpenClaim := { program := "ytnhcgbcmnhdocaa", sum := "4f05b186814da7f1cafcf768f14c95c2b3d3d716a214ef9511ee6dfcaeba9470", func := "agonic/agoniclaw07.ChartEmpty", spec := "chartEmpty", unfollowed := true, recurses := true, plainKeys := false, apart := false }
def ChartEmptySaid : Prop := chartEmptyRow.holds Try.pinned (OpenSpec.ofChange chartEmptySpec)

/-- ITS FALSE NEIGHBOUR: 'it returns false'. Refute it at one input. -/
def chartEmptyWrong : ChangeSpec := { name := "chartEmpty", fn := fun _ => fun
  | [d1, d2] => { results := [.lit (.bool false)], args := [d1, d2] }
  | _ => none }
def ChartEmptyWrongFalsely : Prop := chartEmptyRow.holds Try.pinned (OpenSpec.ofChange chartEmptyWrong)

/-- 'agoniclaw07.ChartLow': WHATEVER THE INPUT: true; the input reads as it did. -/
def chartLowSpec : ChangeSpec := { name := "chartLow", fn := fun _ => fun
  | [d1, d2] => { results := [.lit (.bool true)], args := [d1, d2] }
  | _ => none }
def chartLowRow : OpenClaim := { program := "ytnhcgbcmnhdocaa", sum := "4f05b186814da7f1cafcf768f14c95c2b3d3d716a214ef9511ee6dfcaeba9470", func := "agonic/agoniclaw07.ChartLow", spec := "chartLow", unfollowed := true, recurses := true, plainKeys := false, apart := false }
def ChartLowSaid : Prop := chartLowRow.holds Try.pinned (OpenSpec.ofChange chartLowSpec)

/-- ITS FALSE NEIGHBOUR: 'it returns false'. Refute it at one input. -/
def chartLowWrong : ChangeSpec := { name := "chartLow", fn := fun _ => fun
  | [d1, d2] => { results := [.lit (.bool false)], args := [d1, d2] }
  | _ => none }
def ChartLowWrongFalsely : Prop := chartLowRow.holds Try.pinned (OpenSpec.ofChange chartLowWrong)

/-- 'agoniclaw07.ChartEven': WHATEVER THE INPUT: true; the input reads as it did. -/
def chartEvenSpec : ChangeSpec := { name := "chartEven", fn := fun _ => fun
  | [d1, d2, d3, d4, d5] => { results := [.lit (.bool true)], args := [d1, d2, d3, d4, d5] }
  | _ => none }
def chartEvenRow : OpenClaim := { program := "ytnhcgbcmnhdocaa", sum := "4f05b186814da7f1cafcf768f14c95c2b3d3d716a214ef9511ee6dfcaeba9470", func := "agonic/agoniclaw07.ChartEven", spec := "chartEven", unfollowed := true, recurses := true, plainKeys := false, apart := false }
def ChartEvenSaid : Prop := chartEvenRow.holds Try.pinned (OpenSpec.ofChange chartEvenSpec)

/-- ITS FALSE NEIGHBOUR: 'it returns false'. Refute it at one input. -/
def chartEvenWrong : ChangeSpec := { name := "chartEven", fn := fun _ => fun
  | [d1, d2, d3, d4, d5] => { results := [.lit (.bool false)], args := [d1, d2, d3, d4, d5] }
  | _ => none }
def ChartEvenWrongFalsely : Prop := chartEvenRow.holds Try.pinned (OpenSpec.ofChange chartEvenWrong)

/-- 'agoniclaw07.ChartTrue': WHATEVER THE INPUT: true; the input reads as it did. -/
def chartTrueSpec : ChangeSpec := { name := "chartTrue", fn := fun _ => fun
  | [d1, d2, d3] => { results := [.lit (.bool true)], args := [d1, d2, d3] }
  | _ => none }
def chartTrueRow : OpenClaim := { program := "ytnhcgbcmnhdocaa", sum := "4f05b186814da7f1cafcf768f14c95c2b3d3d716a214ef9511ee6dfcaeba9470", func := "agonic/agoniclaw07.ChartTrue", spec := "chartTrue", unfollowed := true, recurses := true, plainKeys := false, apart := false }
def ChartTrueSaid : Prop := chartTrueRow.holds Try.pinned (OpenSpec.ofChange chartTrueSpec)

/-- ITS FALSE NEIGHBOUR: 'it returns false'. Refute it at one input. -/
def chartTrueWrong : ChangeSpec := { name := "chartTrue", fn := fun _ => fun
  | [d1, d2, d3] => { results := [.lit (.bool false)], args := [d1, d2, d3] }
  | _ => none }
def ChartTrueWrongFalsely : Prop := chartTrueRow.holds Try.pinned (OpenSpec.ofChange chartTrueWrong)

/-- 'agoniclaw07.ChartWithout': WHATEVER THE INPUT: true; the input reads as it did. -/
def chartWithoutSpec : ChangeSpec := { name := "chartWithout", fn := fun _ => fun
  | [d1, d2] => { results := [.lit (.bool true)], args := [d1, d2] }
  | _ => none }
def chartWithoutRow : OpenClaim := { program := "ytnhcgbcmnhdocaa", sum := "4f05b186814da7f1cafcf768f14c95c2b3d3d716a214ef9511ee6dfcaeba9470", func := "agonic/agoniclaw07.ChartWithout", spec := "chartWithout", unfollowed := true, recurses := true, plainKeys := false, apart := false }
def ChartWithoutSaid : Prop := chartWithoutRow.holds Try.pinned (OpenSpec.ofChange chartWithoutSpec)

/-- ITS FALSE NEIGHBOUR: 'it returns false'. Refute it at one input. -/
def chartWithoutWrong : ChangeSpec := { name := "chartWithout", fn := fun _ => fun
  | [d1, d2] => { results := [.lit (.bool false)], args := [d1, d2] }
  | _ => none }
def ChartWithoutWrongFalsely : Prop := chartWithoutRow.holds Try.pinned (OpenSpec.ofChange chartWithoutWrong)

/-- 'agoniclaw07.ChartTurned': WHATEVER THE INPUT: true; the input reads as it did. -/
def chartTurnedSpec : ChangeSpec := { name := "chartTurned", fn := fun _ => fun
  | [d1, d2, d3, d4, d5, d6] => { results := [.lit (.bool true)], args := [d1, d2, d3, d4, d5, d6] }
  | _ => none }
def chartTurnedRow : OpenClaim := { program := "ytnhcgbcmnhdocaa", sum := "4f05b186814da7f1cafcf768f14c95c2b3d3d716a214ef9511ee6dfcaeba9470", func := "agonic/agoniclaw07.ChartTurned", spec := "chartTurned", unfollowed := true, recurses := true, plainKeys := false, apart := false }
def ChartTurnedSaid : Prop := chartTurnedRow.holds Try.pinned (OpenSpec.ofChange chartTurnedSpec)

/-- ITS FALSE NEIGHBOUR: 'it returns false'. Refute it at one input. -/
def chartTurnedWrong : ChangeSpec := { name := "chartTurned", fn := fun _ => fun
  | [d1, d2, d3, d4, d5, d6] => { results := [.lit (.bool false)], args := [d1, d2, d3, d4, d5, d6] }
  | _ => none }
def ChartTurnedWrongFalsely : Prop := chartTurnedRow.holds Try.pinned (OpenSpec.ofChange chartTurnedWrong)

/-- 'agoniclaw07.ChartKnown': WHATEVER THE INPUT: true; the input reads as it did. -/
def chartKnownSpec : ChangeSpec := { name := "chartKnown", fn := fun _ => fun
  | [] => { results := [.lit (.bool true)], args := [] }
  | _ => none }
def chartKnownRow : OpenClaim := { program := "ytnhcgbcmnhdocaa", sum := "4f05b186814da7f1cafcf768f14c95c2b3d3d716a214ef9511ee6dfcaeba9470", func := "agonic/agoniclaw07.ChartKnown", spec := "chartKnown", unfollowed := true, recurses := true, plainKeys := false, apart := false }
def ChartKnownSaid : Prop := chartKnownRow.holds Try.pinned (OpenSpec.ofChange chartKnownSpec)

/-- ITS FALSE NEIGHBOUR: 'it returns false'. Refute it at one input. -/
def chartKnownWrong : ChangeSpec := { name := "chartKnown", fn := fun _ => fun
  | [] => { results := [.lit (.bool false)], args := [] }
  | _ => none }
def ChartKnownWrongFalsely : Prop := chartKnownRow.holds Try.pinned (OpenSpec.ofChange chartKnownWrong)

/- THE SECOND FORM. 'bulk': how many values and letters a reading holds, each counted each time it is reached (what is shared counts as often as it is met; a slice's spare places count too). A statement '..UptoSaid' is the law's where the arguments, and the package variables that the reading takes, are together of bulk at most 1048576: NARROWER than '..Said'. Prove '..Said' where nothing that the law and all that it calls make is longer than what came in: it says more and counts as full. Else prove '..UptoSaid'. A law counts once. -/
mutual
def uptoBulk {H : Type} : DataW H → Nat
  | .lit (.string bytes) => bytes.length + 1
  | .lit _ => 1
  | .nil => 1
  | .ptr d => uptoBulk d + 1
  | .slice elems spare => uptoBulkAll elems + uptoBulkAll spare + 1
  | .agg parts => uptoBulkAll parts + 1
  | .iface _ d => uptoBulk d + 1
  | .map entries => uptoBulkEntries entries + 1
  | .held _ => 1
def uptoBulkAll {H : Type} : List (DataW H) → Nat
  | [] => 0
  | d :: r => uptoBulk d + uptoBulkAll r
def uptoBulkEntries {H : Type} : List (Lit × DataW H) → Nat
  | [] => 0
  | x :: r => uptoBulkEntry x + uptoBulkEntries r
def uptoBulkEntry {H : Type} : Lit × DataW H → Nat
  | (.string bytes, d) => bytes.length + uptoBulk d + 1
  | (_, d) => uptoBulk d + 1
 end
def uptoSmall : (H : Type) → List (DataW H) → Bool := fun _ ds => decide (uptoBulkAll ds ≤ 1048576)
def OpenSpec.upto (s : _root_.Go.ChangeSpec) : _root_.Go.OpenSpec := { _root_.Go.OpenSpec.ofChange s with cond := some uptoSmall }

/-- 'agoniclaw07.ChartSides', WHERE WHAT IT READS IS OF BULK AT MOST 1048576: true; the input reads as it did. -/
def chartSidesUptoRow : OpenClaim := { program := "ytnhcgbcmnhdocaa", sum := "4f05b186814da7f1cafcf768f14c95c2b3d3d716a214ef9511ee6dfcaeba9470", func := "agonic/agoniclaw07.ChartSides", spec := "chartSides", unfollowed := true, recurses := true, plainKeys := false, apart := false, narrowed := true }
def ChartSidesUptoSaid : Prop := chartSidesUptoRow.holds Try.pinned (OpenSpec.upto chartSidesSpec)

/-- 'agoniclaw07.ChartCover', WHERE WHAT IT READS IS OF BULK AT MOST 1048576: true; the input reads as it did. -/
def chartCoverUptoRow : OpenClaim := { program := "ytnhcgbcmnhdocaa", sum := "4f05b186814da7f1cafcf768f14c95c2b3d3d716a214ef9511ee6dfcaeba9470", func := "agonic/agoniclaw07.ChartCover", spec := "chartCover", unfollowed := true, recurses := true, plainKeys := false, apart := false, narrowed := true }
def ChartCoverUptoSaid : Prop := chartCoverUptoRow.holds Try.pinned (OpenSpec.upto chartCoverSpec)

/-- 'agoniclaw07.ChartEmpty', WHERE WHAT IT READS IS OF BULK AT MOST 1048576: true; the input reads as it did. -/
def chartEmptyUptoRow : OpenClaim := { program := "ytnhcgbcmnhdocaa", sum := "4f05b186814da7f1cafcf768f14c95c2b3d3d716a214ef9511ee6dfcaeba9470", func := "agonic/agoniclaw07.ChartEmpty", spec := "chartEmpty", unfollowed := true, recurses := true, plainKeys := false, apart := false, narrowed := true }
def ChartEmptyUptoSaid : Prop := chartEmptyUptoRow.holds Try.pinned (OpenSpec.upto chartEmptySpec)

/-- 'agoniclaw07.ChartLow', WHERE WHAT IT READS IS OF BULK AT MOST 1048576: true; the input reads as it did. -/
def chartLowUptoRow : OpenClaim := { program := "ytnhcgbcmnhdocaa", sum := "4f05b186814da7f1cafcf768f14c95c2b3d3d716a214ef9511ee6dfcaeba9470", func := "agonic/agoniclaw07.ChartLow", spec := "chartLow", unfollowed := true, recurses := true, plainKeys := false, apart := false, narrowed := true }
def ChartLowUptoSaid : Prop := chartLowUptoRow.holds Try.pinned (OpenSpec.upto chartLowSpec)

/-- 'agoniclaw07.ChartEven', WHERE WHAT IT READS IS OF BULK AT MOST 1048576: true; the input reads as it did. -/
def chartEvenUptoRow : OpenClaim := { program := "ytnhcgbcmnhdocaa", sum := "4f05b186814da7f1cafcf768f14c95c2b3d3d716a214ef9511ee6dfcaeba9470", func := "agonic/agoniclaw07.ChartEven", spec := "chartEven", unfollowed := true, recurses := true, plainKeys := false, apart := false, narrowed := true }
def ChartEvenUptoSaid : Prop := chartEvenUptoRow.holds Try.pinned (OpenSpec.upto chartEvenSpec)

/-- 'agoniclaw07.ChartTrue', WHERE WHAT IT READS IS OF BULK AT MOST 1048576: true; the input reads as it did. -/
def chartTrueUptoRow : OpenClaim := { program := "ytnhcgbcmnhdocaa", sum := "4f05b186814da7f1cafcf768f14c95c2b3d3d716a214ef9511ee6dfcaeba9470", func := "agonic/agoniclaw07.ChartTrue", spec := "chartTrue", unfollowed := true, recurses := true, plainKeys := false, apart := false, narrowed := true }
def ChartTrueUptoSaid : Prop := chartTrueUptoRow.holds Try.pinned (OpenSpec.upto chartTrueSpec)

/-- 'agoniclaw07.ChartWithout', WHERE WHAT IT READS IS OF BULK AT MOST 1048576: true; the input reads as it did. -/
def chartWithoutUptoRow : OpenClaim := { program := "ytnhcgbcmnhdocaa", sum := "4f05b186814da7f1cafcf768f14c95c2b3d3d716a214ef9511ee6dfcaeba9470", func := "agonic/agoniclaw07.ChartWithout", spec := "chartWithout", unfollowed := true, recurses := true, plainKeys := false, apart := false, narrowed := true }
def ChartWithoutUptoSaid : Prop := chartWithoutUptoRow.holds Try.pinned (OpenSpec.upto chartWithoutSpec)

/-- 'agoniclaw07.ChartTurned', WHERE WHAT IT READS IS OF BULK AT MOST 1048576: true; the input reads as it did. -/
def chartTurnedUptoRow : OpenClaim := { program := "ytnhcgbcmnhdocaa", sum := "4f05b186814da7f1cafcf768f14c95c2b3d3d716a214ef9511ee6dfcaeba9470", func := "agonic/agoniclaw07.ChartTurned", spec := "chartTurned", unfollowed := true, recurses := true, plainKeys := false, apart := false, narrowed := true }
def ChartTurnedUptoSaid : Prop := chartTurnedUptoRow.holds Try.pinned (OpenSpec.upto chartTurnedSpec)

/-- 'agoniclaw07.ChartKnown', WHERE WHAT IT READS IS OF BULK AT MOST 1048576: true; the input reads as it did. -/
def chartKnownUptoRow : OpenClaim := { program := "ytnhcgbcmnhdocaa", sum := "4f05b186814da7f1cafcf768f14c95c2b3d3d716a214ef9511ee6dfcaeba9470", func := "agonic/agoniclaw07.ChartKnown", spec := "chartKnown", unfollowed := true, recurses := true, plainKeys := false, apart := false, narrowed := true }
def ChartKnownUptoSaid : Prop := chartKnownUptoRow.holds Try.pinned (OpenSpec.upto chartKnownSpec)

end Rows
end Go.Proofs.Ytnhcgbcmnhdocaa
