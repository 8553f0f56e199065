/-
  No cell of these rows narrows 'for every input' (looked for: loops, veiled, ifaces, maps, wideKeys, modest, calm, conditions, laid).
  DERIVED. THE GIVEN ROWS OF THIS SEAT. 12 by the template 'for every input the law returns true; each argument reads behind the call as it read before'; 0 by the template 'total and deterministic' (their statements: YtiaippkjgmccoaaTotals.lean).
  GIVEN WITH THE SEED: the statements are not yours to turn. If you find one false, say at which input.
  Laid BY PROGRAM, IN A SANDBOX (cutbox-rows.mjs): the forced cells as the released guide's own fill.sh prints them over the translation c45a4ee550da1190… (all of the seat's roots in one cut). By AI agents, Wed Nov 11 2026. No macro, syntax, notation, axiom, sorry.
-/
import Derived.Test.YtiaippkjgmccoaaChecked
import GoSem.Claim
import GoSem.ClaimJoined
import GoSem.ClaimMapViews
import Derived.JoinedTies
import Derived.KernelRfl
namespace Go.Proofs.Ytiaippkjgmccoaa
/- THE CELL 'sum', in the pinned program and in every row, IS THE sha256 OF THE DUMP (.gsa) THAT YtiaippkjgmccoaaProg.lean LOADS. Nothing in Lean hashes anything: it is a label: what it is worth is what the hold of that sum in a sandbox is worth. -/
noncomputable def Try.pinned : Pinned := { name := "ytiaippkjgmccoaa", sum := "c45a4ee550da11905af7399f4a4babf158353d1c3c921cc699233c9409f0ec00", checked := Try.checked }
namespace Rows
def none {H : Type} : Left H := { results := [], args := [] }

/-- 'agoniclaw10.KeysTruths': WHATEVER THE INPUT: true; the input reads as it did. -/
def keysTruthsSpec : ChangeSpec := { name := "keysTruths", fn := fun _ => fun
  | [d1, d2, d3] => { results := [.lit (.bool true)], args := [d1, d2, d3] }
  | _ => none }
def keysTruthsRow : OpenClaim := { program := "ytiaippkjgmccoaa", sum := "c45a4ee550da11905af7399f4a4babf158353d1c3c921cc699233c9409f0ec00", func := "agonic/agoniclaw10.KeysTruths", spec := "keysTruths", unfollowed := true, recurses := true, plainKeys := false, apart := false }
def KeysTruthsSaid : Prop := keysTruthsRow.holds Try.pinned (OpenSpec.ofChange keysTruthsSpec)

/-- ITS FALSE NEIGHBOUR: 'it returns false'. Refute it at one input. -/
def keysTruthsWrong : ChangeSpec := { name := "keysTruths", fn := fun _ => fun
  | [d1, d2, d3] => { results := [.lit (.bool false)], args := [d1, d2, d3] }
  | _ => none }
def KeysTruthsWrongFalsely : Prop := keysTruthsRow.holds Try.pinned (OpenSpec.ofChange keysTruthsWrong)

/-- 'agoniclaw10.KeysChains': WHATEVER THE INPUT: true; the input reads as it did. -/
def keysChainsSpec : ChangeSpec := { name := "keysChains", fn := fun _ => fun
  | [d1, d2, d3, d4] => { results := [.lit (.bool true)], args := [d1, d2, d3, d4] }
  | _ => none }
def keysChainsRow : OpenClaim := { program := "ytiaippkjgmccoaa", sum := "c45a4ee550da11905af7399f4a4babf158353d1c3c921cc699233c9409f0ec00", func := "agonic/agoniclaw10.KeysChains", spec := "keysChains", unfollowed := true, recurses := true, plainKeys := false, apart := false }
def KeysChainsSaid : Prop := keysChainsRow.holds Try.pinned (OpenSpec.ofChange keysChainsSpec)

/-- ITS FALSE NEIGHBOUR: 'it returns false'. Refute it at one input. -/
def keysChainsWrong : ChangeSpec := { name := "keysChains", fn := fun _ => fun
  | [d1, d2, d3, d4] => { results := [.lit (.bool false)], args := [d1, d2, d3, d4] }
  | _ => none }
def KeysChainsWrongFalsely : Prop := keysChainsRow.holds Try.pinned (OpenSpec.ofChange keysChainsWrong)

/-- 'agoniclaw10.KeysClashes': WHATEVER THE INPUT: true; the input reads as it did. -/
def keysClashesSpec : ChangeSpec := { name := "keysClashes", fn := fun _ => fun
  | [d1, d2, d3] => { results := [.lit (.bool true)], args := [d1, d2, d3] }
  | _ => none }
def keysClashesRow : OpenClaim := { program := "ytiaippkjgmccoaa", sum := "c45a4ee550da11905af7399f4a4babf158353d1c3c921cc699233c9409f0ec00", func := "agonic/agoniclaw10.KeysClashes", spec := "keysClashes", unfollowed := true, recurses := true, plainKeys := false, apart := false }
def KeysClashesSaid : Prop := keysClashesRow.holds Try.pinned (OpenSpec.ofChange keysClashesSpec)

/-- ITS FALSE NEIGHBOUR: 'it returns false'. Refute it at one input. -/
def keysClashesWrong : ChangeSpec := { name := "keysClashes", fn := fun _ => fun
  | [d1, d2, d3] => { results := [.lit (.bool false)], args := [d1, d2, d3] }
  | _ => none }
def KeysClashesWrongFalsely : Prop := keysClashesRow.holds Try.pinned (OpenSpec.ofChange keysClashesWrong)

/-- 'agoniclaw10.KeysCounts': WHATEVER THE INPUT: true; the input reads as it did. -/
def keysCountsSpec : ChangeSpec := { name := "keysCounts", fn := fun _ => fun
  | [d1, d2] => { results := [.lit (.bool true)], args := [d1, d2] }
  | _ => none }
def keysCountsRow : OpenClaim := { program := "ytiaippkjgmccoaa", sum := "c45a4ee550da11905af7399f4a4babf158353d1c3c921cc699233c9409f0ec00", func := "agonic/agoniclaw10.KeysCounts", spec := "keysCounts", unfollowed := true, recurses := true, plainKeys := false, apart := false }
def KeysCountsSaid : Prop := keysCountsRow.holds Try.pinned (OpenSpec.ofChange keysCountsSpec)

/-- ITS FALSE NEIGHBOUR: 'it returns false'. Refute it at one input. -/
def keysCountsWrong : ChangeSpec := { name := "keysCounts", fn := fun _ => fun
  | [d1, d2] => { results := [.lit (.bool false)], args := [d1, d2] }
  | _ => none }
def KeysCountsWrongFalsely : Prop := keysCountsRow.holds Try.pinned (OpenSpec.ofChange keysCountsWrong)

/-- 'agoniclaw10.KeysEither': WHATEVER THE INPUT: true; the input reads as it did. -/
def keysEitherSpec : ChangeSpec := { name := "keysEither", fn := fun _ => fun
  | [d] => { results := [.lit (.bool true)], args := [d] }
  | _ => none }
def keysEitherRow : OpenClaim := { program := "ytiaippkjgmccoaa", sum := "c45a4ee550da11905af7399f4a4babf158353d1c3c921cc699233c9409f0ec00", func := "agonic/agoniclaw10.KeysEither", spec := "keysEither", unfollowed := true, recurses := true, plainKeys := false, apart := false }
def KeysEitherSaid : Prop := keysEitherRow.holds Try.pinned (OpenSpec.ofChange keysEitherSpec)

/-- ITS FALSE NEIGHBOUR: 'it returns false'. Refute it at one input. -/
def keysEitherWrong : ChangeSpec := { name := "keysEither", fn := fun _ => fun
  | [d] => { results := [.lit (.bool false)], args := [d] }
  | _ => none }
def KeysEitherWrongFalsely : Prop := keysEitherRow.holds Try.pinned (OpenSpec.ofChange keysEitherWrong)

/-- 'agoniclaw10.KeysProved': WHATEVER THE INPUT: true; the input reads as it did. -/
def keysProvedSpec : ChangeSpec := { name := "keysProved", fn := fun _ => fun
  | [d1, d2, d3] => { results := [.lit (.bool true)], args := [d1, d2, d3] }
  | _ => none }
def keysProvedRow : OpenClaim := { program := "ytiaippkjgmccoaa", sum := "c45a4ee550da11905af7399f4a4babf158353d1c3c921cc699233c9409f0ec00", func := "agonic/agoniclaw10.KeysProved", spec := "keysProved", unfollowed := true, recurses := true, plainKeys := false, apart := false }
def KeysProvedSaid : Prop := keysProvedRow.holds Try.pinned (OpenSpec.ofChange keysProvedSpec)

/-- ITS FALSE NEIGHBOUR: 'it returns false'. Refute it at one input. -/
def keysProvedWrong : ChangeSpec := { name := "keysProved", fn := fun _ => fun
  | [d1, d2, d3] => { results := [.lit (.bool false)], args := [d1, d2, d3] }
  | _ => none }
def KeysProvedWrongFalsely : Prop := keysProvedRow.holds Try.pinned (OpenSpec.ofChange keysProvedWrong)

/-- 'agoniclaw10.KeysCertain': WHATEVER THE INPUT: true; the input reads as it did. -/
def keysCertainSpec : ChangeSpec := { name := "keysCertain", fn := fun _ => fun
  | [d1, d2] => { results := [.lit (.bool true)], args := [d1, d2] }
  | _ => none }
def keysCertainRow : OpenClaim := { program := "ytiaippkjgmccoaa", sum := "c45a4ee550da11905af7399f4a4babf158353d1c3c921cc699233c9409f0ec00", func := "agonic/agoniclaw10.KeysCertain", spec := "keysCertain", unfollowed := true, recurses := true, plainKeys := false, apart := false }
def KeysCertainSaid : Prop := keysCertainRow.holds Try.pinned (OpenSpec.ofChange keysCertainSpec)

/-- ITS FALSE NEIGHBOUR: 'it returns false'. Refute it at one input. -/
def keysCertainWrong : ChangeSpec := { name := "keysCertain", fn := fun _ => fun
  | [d1, d2] => { results := [.lit (.bool false)], args := [d1, d2] }
  | _ => none }
def KeysCertainWrongFalsely : Prop := keysCertainRow.holds Try.pinned (OpenSpec.ofChange keysCertainWrong)

/-- 'agoniclaw10.KeysChained': WHATEVER THE INPUT: true; the input reads as it did. -/
def keysChainedSpec : ChangeSpec := { name := "keysChained", fn := fun _ => fun
  | [d1, d2, d3] => { results := [.lit (.bool true)], args := [d1, d2, d3] }
  | _ => none }
def keysChainedRow : OpenClaim := { program := "ytiaippkjgmccoaa", sum := "c45a4ee550da11905af7399f4a4babf158353d1c3c921cc699233c9409f0ec00", func := "agonic/agoniclaw10.KeysChained", spec := "keysChained", unfollowed := true, recurses := true, plainKeys := false, apart := false }
def KeysChainedSaid : Prop := keysChainedRow.holds Try.pinned (OpenSpec.ofChange keysChainedSpec)

/-- ITS FALSE NEIGHBOUR: 'it returns false'. Refute it at one input. -/
def keysChainedWrong : ChangeSpec := { name := "keysChained", fn := fun _ => fun
  | [d1, d2, d3] => { results := [.lit (.bool false)], args := [d1, d2, d3] }
  | _ => none }
def KeysChainedWrongFalsely : Prop := keysChainedRow.holds Try.pinned (OpenSpec.ofChange keysChainedWrong)

/-- 'agoniclaw10.KeysGiven': WHATEVER THE INPUT: true; the input reads as it did. -/
def keysGivenSpec : ChangeSpec := { name := "keysGiven", fn := fun _ => fun
  | [d1, d2] => { results := [.lit (.bool true)], args := [d1, d2] }
  | _ => none }
def keysGivenRow : OpenClaim := { program := "ytiaippkjgmccoaa", sum := "c45a4ee550da11905af7399f4a4babf158353d1c3c921cc699233c9409f0ec00", func := "agonic/agoniclaw10.KeysGiven", spec := "keysGiven", unfollowed := true, recurses := true, plainKeys := false, apart := false }
def KeysGivenSaid : Prop := keysGivenRow.holds Try.pinned (OpenSpec.ofChange keysGivenSpec)

/-- ITS FALSE NEIGHBOUR: 'it returns false'. Refute it at one input. -/
def keysGivenWrong : ChangeSpec := { name := "keysGiven", fn := fun _ => fun
  | [d1, d2] => { results := [.lit (.bool false)], args := [d1, d2] }
  | _ => none }
def KeysGivenWrongFalsely : Prop := keysGivenRow.holds Try.pinned (OpenSpec.ofChange keysGivenWrong)

/-- 'agoniclaw10.KeysSpare': WHATEVER THE INPUT: true; the input reads as it did. -/
def keysSpareSpec : ChangeSpec := { name := "keysSpare", fn := fun _ => fun
  | [d] => { results := [.lit (.bool true)], args := [d] }
  | _ => none }
def keysSpareRow : OpenClaim := { program := "ytiaippkjgmccoaa", sum := "c45a4ee550da11905af7399f4a4babf158353d1c3c921cc699233c9409f0ec00", func := "agonic/agoniclaw10.KeysSpare", spec := "keysSpare", unfollowed := true, recurses := true, plainKeys := false, apart := false }
def KeysSpareSaid : Prop := keysSpareRow.holds Try.pinned (OpenSpec.ofChange keysSpareSpec)

/-- ITS FALSE NEIGHBOUR: 'it returns false'. Refute it at one input. -/
def keysSpareWrong : ChangeSpec := { name := "keysSpare", fn := fun _ => fun
  | [d] => { results := [.lit (.bool false)], args := [d] }
  | _ => none }
def KeysSpareWrongFalsely : Prop := keysSpareRow.holds Try.pinned (OpenSpec.ofChange keysSpareWrong)

/-- 'agoniclaw10.KeysNames': WHATEVER THE INPUT: true; the input reads as it did. -/
def keysNamesSpec : ChangeSpec := { name := "keysNames", fn := fun _ => fun
  | [d1, d2, d3, d4] => { results := [.lit (.bool true)], args := [d1, d2, d3, d4] }
  | _ => none }
def keysNamesRow : OpenClaim := { program := "ytiaippkjgmccoaa", sum := "c45a4ee550da11905af7399f4a4babf158353d1c3c921cc699233c9409f0ec00", func := "agonic/agoniclaw10.KeysNames", spec := "keysNames", unfollowed := true, recurses := true, plainKeys := false, apart := false }
def KeysNamesSaid : Prop := keysNamesRow.holds Try.pinned (OpenSpec.ofChange keysNamesSpec)

/-- ITS FALSE NEIGHBOUR: 'it returns false'. Refute it at one input. -/
def keysNamesWrong : ChangeSpec := { name := "keysNames", fn := fun _ => fun
  | [d1, d2, d3, d4] => { results := [.lit (.bool false)], args := [d1, d2, d3, d4] }
  | _ => none }
def KeysNamesWrongFalsely : Prop := keysNamesRow.holds Try.pinned (OpenSpec.ofChange keysNamesWrong)

/-- 'agoniclaw10.KeysKnown': WHATEVER THE INPUT: true; the input reads as it did. -/
def keysKnownSpec : ChangeSpec := { name := "keysKnown", fn := fun _ => fun
  | [] => { results := [.lit (.bool true)], args := [] }
  | _ => none }
def keysKnownRow : OpenClaim := { program := "ytiaippkjgmccoaa", sum := "c45a4ee550da11905af7399f4a4babf158353d1c3c921cc699233c9409f0ec00", func := "agonic/agoniclaw10.KeysKnown", spec := "keysKnown", unfollowed := true, recurses := true, plainKeys := false, apart := false }
def KeysKnownSaid : Prop := keysKnownRow.holds Try.pinned (OpenSpec.ofChange keysKnownSpec)

/-- ITS FALSE NEIGHBOUR: 'it returns false'. Refute it at one input. -/
def keysKnownWrong : ChangeSpec := { name := "keysKnown", fn := fun _ => fun
  | [] => { results := [.lit (.bool false)], args := [] }
  | _ => none }
def KeysKnownWrongFalsely : Prop := keysKnownRow.holds Try.pinned (OpenSpec.ofChange keysKnownWrong)

/- THE SECOND FORM. 'bulk': how many values and letters a reading holds, each counted each time it is reached (what is shared counts as often as it is met; a slice's spare places count too). A statement '..UptoSaid' is the law's where the arguments, and the package variables that the reading takes, are together of bulk at most 1048576: NARROWER than '..Said'. Prove '..Said' where nothing that the law and all that it calls make is longer than what came in: it says more and counts as full. Else prove '..UptoSaid'. A law counts once. -/
mutual
def uptoBulk {H : Type} : DataW H → Nat
  | .lit (.string bytes) => bytes.length + 1
  | .lit _ => 1
  | .nil => 1
  | .ptr d => uptoBulk d + 1
  | .slice elems spare => uptoBulkAll elems + uptoBulkAll spare + 1
  | .agg parts => uptoBulkAll parts + 1
  | .iface _ d => uptoBulk d + 1
  | .map entries => uptoBulkEntries entries + 1
  | .held _ => 1
def uptoBulkAll {H : Type} : List (DataW H) → Nat
  | [] => 0
  | d :: r => uptoBulk d + uptoBulkAll r
def uptoBulkEntries {H : Type} : List (Lit × DataW H) → Nat
  | [] => 0
  | x :: r => uptoBulkEntry x + uptoBulkEntries r
def uptoBulkEntry {H : Type} : Lit × DataW H → Nat
  | (.string bytes, d) => bytes.length + uptoBulk d + 1
  | (_, d) => uptoBulk d + 1
 end
def uptoSmall : (H : Type) → List (DataW H) → Bool := fun _ ds => decide (uptoBulkAll ds ≤ 1048576)
def OpenSpec.upto (s : _root_.Go.ChangeSpec) : _root_.Go.OpenSpec := { _root_.Go.OpenSpec.ofChange s with cond := some uptoSmall }

/-- 'agoniclaw10.KeysTruths', WHERE WHAT IT READS IS OF BULK AT MOST 1048576: true; the input reads as it did. -/
def keysTruthsUptoRow : OpenClaim := { program := "ytiaippkjgmccoaa", sum := "c45a4ee550da11905af7399f4a4babf158353d1c3c921cc699233c9409f0ec00", func := "agonic/agoniclaw10.KeysTruths", spec := "keysTruths", unfollowed := true, recurses := true, plainKeys := false, apart := false, narrowed := true }
def KeysTruthsUptoSaid : Prop := keysTruthsUptoRow.holds Try.pinned (OpenSpec.upto keysTruthsSpec)

/-- 'agoniclaw10.KeysChains', WHERE WHAT IT READS IS OF BULK AT MOST 1048576: true; the input reads as it did. -/
def keysChainsUptoRow : OpenClaim := { program := "ytiaippkjgmccoaa", sum := "c45a4ee550da11905af7399f4a4babf158353d1c3c921cc699233c9409f0ec00", func := "agonic/agoniclaw10.KeysChains", spec := "keysChains", unfollowed := true, recurses := true, plainKeys := false, apart := false, narrowed := true }
def KeysChainsUptoSaid : Prop := keysChainsUptoRow.holds Try.pinned (OpenSpec.upto keysChainsSpec)

/-- 'agoniclaw10.KeysClashes', WHERE WHAT IT READS IS OF BULK AT MOST 1048576: true; the input reads as it did. -/
def keysClashesUptoRow : OpenClaim := { program := "ytiaippkjgmccoaa", sum := "c45a4ee550da11905af7399f4a4babf158353d1c3c921cc699233c9409f0ec00", func := "agonic/agoniclaw10.KeysClashes", spec := "keysClashes", unfollowed := true, recurses := true, plainKeys := false, apart := false, narrowed := true }
def KeysClashesUptoSaid : Prop := keysClashesUptoRow.holds Try.pinned (OpenSpec.upto keysClashesSpec)

/-- 'agoniclaw10.KeysCounts', WHERE WHAT IT READS IS OF BULK AT MOST 1048576: true; the input reads as it did. -/
def keysCountsUptoRow : OpenClaim := { program := "ytiaippkjgmccoaa", sum := "c45a4ee550da11905af7399f4a4babf158353d1c3c921cc699233c9409f0ec00", func := "agonic/agoniclaw10.KeysCounts", spec := "keysCounts", unfollowed := true, recurses := true, plainKeys := false, apart := false, narrowed := true }
def KeysCountsUptoSaid : Prop := keysCountsUptoRow.holds Try.pinned (OpenSpec.upto keysCountsSpec)

/-- 'agoniclaw10.KeysEither', WHERE WHAT IT READS IS OF BULK AT MOST 1048576: true; the input reads as it did. -/
def keysEitherUptoRow : OpenClaim := { program := "ytiaippkjgmccoaa", sum := "c45a4ee550da11905af7399f4a4babf158353d1c3c921cc699233c9409f0ec00", func := "agonic/agoniclaw10.KeysEither", spec := "keysEither", unfollowed := true, recurses := true, plainKeys := false, apart := false, narrowed := true }
def KeysEitherUptoSaid : Prop := keysEitherUptoRow.holds Try.pinned (OpenSpec.upto keysEitherSpec)

/-- 'agoniclaw10.KeysProved', WHERE WHAT IT READS IS OF BULK AT MOST 1048576: true; the input reads as it did. -/
def keysProvedUptoRow : OpenClaim := { program := "ytiaippkjgmccoaa", sum := "c45a4ee550da11905af7399f4a4babf158353d1c3c921cc699233c9409f0ec00", func := "agonic/agoniclaw10.KeysProved", spec := "keysProved", unfollowed := true, recurses := true, plainKeys := false, apart := false, narrowed := true }
def KeysProvedUptoSaid : Prop := keysProvedUptoRow.holds Try.pinned (OpenSpec.upto keysProvedSpec)

/-- 'agoniclaw10.KeysCertain', WHERE WHAT IT READS IS OF BULK AT MOST 1048576: true; the input reads as it did. -/
def keysCertainUptoRow : OpenClaim := { program := "ytiaippkjgmccoaa", sum := "c45a4ee550da11905af7399f4a4babf158353d1c3c921cc699233c9409f0ec00", func := "agonic/agoniclaw10.KeysCertain", spec := "keysCertain", unfollowed := true, recurses := true, plainKeys := false, apart := false, narrowed := true }
def KeysCertainUptoSaid : Prop := keysCertainUptoRow.holds Try.pinned (OpenSpec.upto keysCertainSpec)

/-- 'agoniclaw10.KeysChained', WHERE WHAT IT READS IS OF BULK AT MOST 1048576: true; the input reads as it did. -/
def keysChainedUptoRow : OpenClaim := { program := "ytiaippkjgmccoaa", sum := "c45a4ee550da11905af7399f4a4babf158353d1c3c921cc699233c9409f0ec00", func := "agonic/agoniclaw10.KeysChained", spec := "keysChained", unfollowed := true, recurses := true, plainKeys := false, apart := false, narrowed := true }
def KeysChainedUptoSaid : Prop := keysChainedUptoRow.holds Try.pinned (OpenSpec.upto keysChainedSpec)

/-- 'agoniclaw10.KeysGiven', WHERE WHAT IT READS IS OF BULK AT MOST 1048576: true; the input reads as it did. -/
def keysGivenUptoRow : OpenClaim := { program := "ytiaippkjgmccoaa", sum := "c45a4ee550da11905af7399f4a4babf158353d1c3c921cc699233c9409f0ec00", func := "agonic/agoniclaw10.KeysGiven", spec := "keysGiven", unfollowed := true, recurses := true, plainKeys := false, apart := false, narrowed := true }
def KeysGivenUptoSaid : Prop := keysGivenUptoRow.holds Try.pinned (OpenSpec.upto keysGivenSpec)

/-- 'agoniclaw10.KeysSpare', WHERE WHAT IT READS IS OF BULK AT MOST 1048576: true; the input reads as it did. -/
def keysSpareUptoRow : OpenClaim := { program := "ytiaippkjgmccoaa", sum := "c45a4ee550da11905af7399f4a4babf158353d1c3c921cc699233c9409f0ec00", func := "agonic/agoniclaw10.KeysSpare", spec := "keysSpare", unfollowed := true, recurses := true, plainKeys := false, apart := false, narrowed := true }
def KeysSpareUptoSaid : Prop := keysSpareUptoRow.holds Try.pinned (OpenSpec.upto keysSpareSpec)

/-- 'agoniclaw10.KeysNames', WHERE WHAT IT READS IS OF BULK AT MOST 1048576: true; the input reads as it did. -/
def keysNamesUptoRow : OpenClaim := { program := "ytiaippkjgmccoaa", sum := "c45a4ee550da11905af7399f4a4babf158353d1c3c921cc699233c9409f0ec00", func := "agonic/agoniclaw10.KeysNames", spec := "keysNames", unfollowed := true, recurses := true, plainKeys := false, apart := false, narrowed := true }
def KeysNamesUptoSaid : Prop := keysNamesUptoRow.holds Try.pinned (OpenSpec.upto keysNamesSpec)

/-- 'agoniclaw10.KeysKnown', WHERE WHAT IT READS IS OF BULK AT MOST 1048576: true; the input reads as it did. -/
def keysKnownUptoRow : OpenClaim := { program := "ytiaippkjgmccoaa", sum := "c45a4ee550da11905af7399f4a4babf158353d1c3c921cc699233c9409f0ec00", func := "agonic/agoniclaw10.KeysKnown", spec := "keysKnown", unfollowed := true, recurses := true, plainKeys := false, apart := false, narrowed := true }
def KeysKnownUptoSaid : Prop := keysKnownUptoRow.holds Try.pinned (OpenSpec.upto keysKnownSpec)

end Rows
end Go.Proofs.Ytiaippkjgmccoaa
