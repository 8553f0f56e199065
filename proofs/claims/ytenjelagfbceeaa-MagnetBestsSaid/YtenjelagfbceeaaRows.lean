/-
  No cell of these rows narrows 'for every input' (looked for: loops, veiled, ifaces, maps, wideKeys, modest, calm, conditions, laid).
  DERIVED. THE GIVEN ROWS OF THIS SEAT. 10 by the template 'for every input the law returns true; each argument reads behind the call as it read before'; 0 by the template 'total and deterministic' (their statements: YtenjelagfbceeaaTotals.lean).
  GIVEN WITH THE SEED: the statements are not yours to turn. If you find one false, say at which input.
  Laid BY PROGRAM, IN A SANDBOX (cutbox-rows.mjs): the forced cells as the released guide's own fill.sh prints them over the translation 72d97c67b989e52f… (all of the seat's roots in one cut). By AI agents, Wed Nov 11 2026. No macro, syntax, notation, axiom, sorry.
-/
import Derived.Test.YtenjelagfbceeaaChecked
import GoSem.Claim
import GoSem.ClaimJoined
import GoSem.ClaimMapViews
import Derived.JoinedTies
import Derived.KernelRfl
namespace Go.Proofs.Ytenjelagfbceeaa
/- THE CELL 'sum', in the pinned program and in every row, IS THE sha256 OF THE DUMP (.gsa) THAT YtenjelagfbceeaaProg.lean LOADS. Nothing in Lean hashes anything: it is a label: what it is worth is what the hold of that sum in a sandbox is worth. -/
noncomputable def Try.pinned : Pinned := { name := "ytenjelagfbceeaa", sum := "72d97c67b989e52f935f4774ef0b2b004ff36e57261a86aa3a66099b4d075007", checked := Try.checked }
namespace Rows
def none {H : Type} : Left H := { results := [], args := [] }

/-- 'agoniclaw06.MagnetRests': WHATEVER THE INPUT: true; the input reads as it did. -/
def magnetRestsSpec : ChangeSpec := { name := "magnetRests", fn := fun _ => fun
  | [d1, d2, d3] => { results := [.lit (.bool true)], args := [d1, d2, d3] }
  | _ => none }
def magnetRestsRow : OpenClaim := { program := "ytenjelagfbceeaa", sum := "72d97c67b989e52f935f4774ef0b2b004ff36e57261a86aa3a66099b4d075007", func := "agonic/agoniclaw06.MagnetRests", spec := "magnetRests", unfollowed := true, recurses := true, apart := false }
def MagnetRestsSaid : Prop := magnetRestsRow.holds Try.pinned (OpenSpec.ofChange magnetRestsSpec)

/-- ITS FALSE NEIGHBOUR: 'it returns false'. Refute it at one input. -/
def magnetRestsWrong : ChangeSpec := { name := "magnetRests", fn := fun _ => fun
  | [d1, d2, d3] => { results := [.lit (.bool false)], args := [d1, d2, d3] }
  | _ => none }
def MagnetRestsWrongFalsely : Prop := magnetRestsRow.holds Try.pinned (OpenSpec.ofChange magnetRestsWrong)

/-- 'agoniclaw06.MagnetReduces': WHATEVER THE INPUT: true; the input reads as it did. -/
def magnetReducesSpec : ChangeSpec := { name := "magnetReduces", fn := fun _ => fun
  | [d] => { results := [.lit (.bool true)], args := [d] }
  | _ => none }
def magnetReducesRow : OpenClaim := { program := "ytenjelagfbceeaa", sum := "72d97c67b989e52f935f4774ef0b2b004ff36e57261a86aa3a66099b4d075007", func := "agonic/agoniclaw06.MagnetReduces", spec := "magnetReduces", unfollowed := true, recurses := true, apart := false }
def MagnetReducesSaid : Prop := magnetReducesRow.holds Try.pinned (OpenSpec.ofChange magnetReducesSpec)

/-- ITS FALSE NEIGHBOUR: 'it returns false'. Refute it at one input. -/
def magnetReducesWrong : ChangeSpec := { name := "magnetReduces", fn := fun _ => fun
  | [d] => { results := [.lit (.bool false)], args := [d] }
  | _ => none }
def MagnetReducesWrongFalsely : Prop := magnetReducesRow.holds Try.pinned (OpenSpec.ofChange magnetReducesWrong)

/-- 'agoniclaw06.MagnetBests': WHATEVER THE INPUT: true; the input reads as it did. -/
def magnetBestsSpec : ChangeSpec := { name := "magnetBests", fn := fun _ => fun
  | [d1, d2, d3, d4, d5] => { results := [.lit (.bool true)], args := [d1, d2, d3, d4, d5] }
  | _ => none }
def magnetBestsRow : OpenClaim := { program := "ytenjelagfbceeaa", sum := "72d97c67b989e52f935f4774ef0b2b004ff36e57261a86aa3a66099b4d075007", func := "agonic/agoniclaw06.MagnetBests", spec := "magnetBests", unfollowed := true, recurses := true, apart := false }
def MagnetBestsSaid : Prop := magnetBestsRow.holds Try.pinned (OpenSpec.ofChange magnetBestsSpec)

/-- ITS FALSE NEIGHBOUR: 'it returns false'. Refute it at one input. -/
def magnetBestsWrong : ChangeSpec := { name := "magnetBests", fn := fun _ => fun
  | [d1, d2, d3, d4, d5] => { results := [.lit (.bool false)], args := [d1, d2, d3, d4, d5] }
  | _ => none }
def MagnetBestsWrongFalsely : Prop := magnetBestsRow.holds Try.pinned (OpenSpec.ofChange magnetBestsWrong)

/-- 'agoniclaw06.MagnetWithins': WHATEVER THE INPUT: true; the input reads as it did. -/
def magnetWithinsSpec : ChangeSpec := { name := "magnetWithins", fn := fun _ => fun
  | [d1, d2, d3] => { results := [.lit (.bool true)], args := [d1, d2, d3] }
  | _ => none }
def magnetWithinsRow : OpenClaim := { program := "ytenjelagfbceeaa", sum := "72d97c67b989e52f935f4774ef0b2b004ff36e57261a86aa3a66099b4d075007", func := "agonic/agoniclaw06.MagnetWithins", spec := "magnetWithins", unfollowed := true, recurses := true, apart := false }
def MagnetWithinsSaid : Prop := magnetWithinsRow.holds Try.pinned (OpenSpec.ofChange magnetWithinsSpec)

/-- ITS FALSE NEIGHBOUR: 'it returns false'. Refute it at one input. -/
def magnetWithinsWrong : ChangeSpec := { name := "magnetWithins", fn := fun _ => fun
  | [d1, d2, d3] => { results := [.lit (.bool false)], args := [d1, d2, d3] }
  | _ => none }
def MagnetWithinsWrongFalsely : Prop := magnetWithinsRow.holds Try.pinned (OpenSpec.ofChange magnetWithinsWrong)

/-- 'agoniclaw06.MagnetNearest': WHATEVER THE INPUT: true; the input reads as it did. -/
def magnetNearestSpec : ChangeSpec := { name := "magnetNearest", fn := fun _ => fun
  | [d] => { results := [.lit (.bool true)], args := [d] }
  | _ => none }
def magnetNearestRow : OpenClaim := { program := "ytenjelagfbceeaa", sum := "72d97c67b989e52f935f4774ef0b2b004ff36e57261a86aa3a66099b4d075007", func := "agonic/agoniclaw06.MagnetNearest", spec := "magnetNearest", unfollowed := true, recurses := true, apart := false }
def MagnetNearestSaid : Prop := magnetNearestRow.holds Try.pinned (OpenSpec.ofChange magnetNearestSpec)

/-- ITS FALSE NEIGHBOUR: 'it returns false'. Refute it at one input. -/
def magnetNearestWrong : ChangeSpec := { name := "magnetNearest", fn := fun _ => fun
  | [d] => { results := [.lit (.bool false)], args := [d] }
  | _ => none }
def MagnetNearestWrongFalsely : Prop := magnetNearestRow.holds Try.pinned (OpenSpec.ofChange magnetNearestWrong)

/-- 'agoniclaw06.MagnetCertified': WHATEVER THE INPUT: true; the input reads as it did. -/
def magnetCertifiedSpec : ChangeSpec := { name := "magnetCertified", fn := fun _ => fun
  | [d1, d2] => { results := [.lit (.bool true)], args := [d1, d2] }
  | _ => none }
def magnetCertifiedRow : OpenClaim := { program := "ytenjelagfbceeaa", sum := "72d97c67b989e52f935f4774ef0b2b004ff36e57261a86aa3a66099b4d075007", func := "agonic/agoniclaw06.MagnetCertified", spec := "magnetCertified", unfollowed := true, recurses := true, apart := false }
def MagnetCertifiedSaid : Prop := magnetCertifiedRow.holds Try.pinned (OpenSpec.ofChange magnetCertifiedSpec)

/-- ITS FALSE NEIGHBOUR: 'it returns false'. Refute it at one input. -/
def magnetCertifiedWrong : ChangeSpec := { name := "magnetCertified", fn := fun _ => fun
  | [d1, d2] => { results := [.lit (.bool false)], args := [d1, d2] }
  | _ => none }
def MagnetCertifiedWrongFalsely : Prop := magnetCertifiedRow.holds Try.pinned (OpenSpec.ofChange magnetCertifiedWrong)

/-- 'agoniclaw06.MagnetReduced': WHATEVER THE INPUT: true; the input reads as it did. -/
def magnetReducedSpec : ChangeSpec := { name := "magnetReduced", fn := fun _ => fun
  | [d1, d2] => { results := [.lit (.bool true)], args := [d1, d2] }
  | _ => none }
def magnetReducedRow : OpenClaim := { program := "ytenjelagfbceeaa", sum := "72d97c67b989e52f935f4774ef0b2b004ff36e57261a86aa3a66099b4d075007", func := "agonic/agoniclaw06.MagnetReduced", spec := "magnetReduced", unfollowed := true, recurses := true, apart := false }
def MagnetReducedSaid : Prop := magnetReducedRow.holds Try.pinned (OpenSpec.ofChange magnetReducedSpec)

/-- ITS FALSE NEIGHBOUR: 'it returns false'. Refute it at one input. -/
def magnetReducedWrong : ChangeSpec := { name := "magnetReduced", fn := fun _ => fun
  | [d1, d2] => { results := [.lit (.bool false)], args := [d1, d2] }
  | _ => none }
def MagnetReducedWrongFalsely : Prop := magnetReducedRow.holds Try.pinned (OpenSpec.ofChange magnetReducedWrong)

/-- 'agoniclaw06.MagnetMoved': WHATEVER THE INPUT: true; the input reads as it did. -/
def magnetMovedSpec : ChangeSpec := { name := "magnetMoved", fn := fun _ => fun
  | [d1, d2] => { results := [.lit (.bool true)], args := [d1, d2] }
  | _ => none }
def magnetMovedRow : OpenClaim := { program := "ytenjelagfbceeaa", sum := "72d97c67b989e52f935f4774ef0b2b004ff36e57261a86aa3a66099b4d075007", func := "agonic/agoniclaw06.MagnetMoved", spec := "magnetMoved", unfollowed := true, recurses := true, apart := false }
def MagnetMovedSaid : Prop := magnetMovedRow.holds Try.pinned (OpenSpec.ofChange magnetMovedSpec)

/-- ITS FALSE NEIGHBOUR: 'it returns false'. Refute it at one input. -/
def magnetMovedWrong : ChangeSpec := { name := "magnetMoved", fn := fun _ => fun
  | [d1, d2] => { results := [.lit (.bool false)], args := [d1, d2] }
  | _ => none }
def MagnetMovedWrongFalsely : Prop := magnetMovedRow.holds Try.pinned (OpenSpec.ofChange magnetMovedWrong)

/-- 'agoniclaw06.MagnetCounted': WHATEVER THE INPUT: true; the input reads as it did. -/
def magnetCountedSpec : ChangeSpec := { name := "magnetCounted", fn := fun _ => fun
  | [d1, d2, d3] => { results := [.lit (.bool true)], args := [d1, d2, d3] }
  | _ => none }
def magnetCountedRow : OpenClaim := { program := "ytenjelagfbceeaa", sum := "72d97c67b989e52f935f4774ef0b2b004ff36e57261a86aa3a66099b4d075007", func := "agonic/agoniclaw06.MagnetCounted", spec := "magnetCounted", unfollowed := true, recurses := true, apart := false }
def MagnetCountedSaid : Prop := magnetCountedRow.holds Try.pinned (OpenSpec.ofChange magnetCountedSpec)

/-- ITS FALSE NEIGHBOUR: 'it returns false'. Refute it at one input. -/
def magnetCountedWrong : ChangeSpec := { name := "magnetCounted", fn := fun _ => fun
  | [d1, d2, d3] => { results := [.lit (.bool false)], args := [d1, d2, d3] }
  | _ => none }
def MagnetCountedWrongFalsely : Prop := magnetCountedRow.holds Try.pinned (OpenSpec.ofChange magnetCountedWrong)

/-- 'agoniclaw06.MagnetKnown': WHATEVER THE INPUT: true; the input reads as it did. -/
def magnetKnownSpec : ChangeSpec := { name := "magnetKnown", fn := fun _ => fun
  | [] => { results := [.lit (.bool true)], args := [] }
  | _ => none }
def magnetKnownRow : OpenClaim := { program := "ytenjelagfbceeaa", sum := "72d97c67b989e52f935f4774ef0b2b004ff36e57261a86aa3a66099b4d075007", func := "agonic/agoniclaw06.MagnetKnown", spec := "magnetKnown", unfollowed := true, recurses := true, apart := false }
def MagnetKnownSaid : Prop := magnetKnownRow.holds Try.pinned (OpenSpec.ofChange magnetKnownSpec)

/-- ITS FALSE NEIGHBOUR: 'it returns false'. Refute it at one input. -/
def magnetKnownWrong : ChangeSpec := { name := "magnetKnown", fn := fun _ => fun
  | [] => { results := [.lit (.bool false)], args := [] }
  | _ => none }
def MagnetKnownWrongFalsely : Prop := magnetKnownRow.holds Try.pinned (OpenSpec.ofChange magnetKnownWrong)

/- THE SECOND FORM. 'bulk': how many values and letters a reading holds, each counted each time it is reached (what is shared counts as often as it is met; a slice's spare places count too). A statement '..UptoSaid' is the law's where the arguments, and the package variables that the reading takes, are together of bulk at most 1048576: NARROWER than '..Said'. Prove '..Said' where nothing that the law and all that it calls make is longer than what came in: it says more and counts as full. Else prove '..UptoSaid'. A law counts once. -/
mutual
def uptoBulk {H : Type} : DataW H → Nat
  | .lit (.string bytes) => bytes.length + 1
  | .lit _ => 1
  | .nil => 1
  | .ptr d => uptoBulk d + 1
  | .slice elems spare => uptoBulkAll elems + uptoBulkAll spare + 1
  | .agg parts => uptoBulkAll parts + 1
  | .iface _ d => uptoBulk d + 1
  | .map entries => uptoBulkEntries entries + 1
  | .held _ => 1
def uptoBulkAll {H : Type} : List (DataW H) → Nat
  | [] => 0
  | d :: r => uptoBulk d + uptoBulkAll r
def uptoBulkEntries {H : Type} : List (Lit × DataW H) → Nat
  | [] => 0
  | x :: r => uptoBulkEntry x + uptoBulkEntries r
def uptoBulkEntry {H : Type} : Lit × DataW H → Nat
  | (.string bytes, d) => bytes.length + uptoBulk d + 1
  | (_, d) => uptoBulk d + 1
 end
def uptoSmall : (H : Type) → List (DataW H) → Bool := fun _ ds => decide (uptoBulkAll ds ≤ 1048576)
def OpenSpec.upto (s : _root_.Go.ChangeSpec) : _root_.Go.OpenSpec := { _root_.Go.OpenSpec.ofChange s with cond := some uptoSmall }

/-- 'agoniclaw06.MagnetRests', WHERE WHAT IT READS IS OF BULK AT MOST 1048576: true; the input reads as it did. -/
def magnetRestsUptoRow : OpenClaim := { program := "ytenjelagfbceeaa", sum := "72d97c67b989e52f935f4774ef0b2b004ff36e57261a86aa3a66099b4d075007", func := "agonic/agoniclaw06.MagnetRests", spec := "magnetRests", unfollowed := true, recurses := true, apart := false, narrowed := true }
def MagnetRestsUptoSaid : Prop := magnetRestsUptoRow.holds Try.pinned (OpenSpec.upto magnetRestsSpec)

/-- 'agoniclaw06.MagnetReduces', WHERE WHAT IT READS IS OF BULK AT MOST 1048576: true; the input reads as it did. -/
def magnetReducesUptoRow : OpenClaim := { program := "ytenjelagfbceeaa", sum := "72d97c67b989e52f935f4774ef0b2b004ff36e57261a86aa3a66099b4d075007", func := "agonic/agoniclaw06.MagnetReduces", spec := "magnetReduces", unfollowed := true, recurses := true, apart := false, narrowed := true }
def MagnetReducesUptoSaid : Prop := magnetReducesUptoRow.holds Try.pinned (OpenSpec.upto magnetReducesSpec)

/-- 'agoniclaw06.MagnetBests', WHERE WHAT IT READS IS OF BULK AT MOST 1048576: true; the input reads as it did. -/
def magnetBestsUptoRow : OpenClaim := { program := "ytenjelagfbceeaa", sum := "72d97c67b989e52f935f4774ef0b2b004ff36e57261a86aa3a66099b4d075007", func := "agonic/agoniclaw06.MagnetBests", spec := "magnetBests", unfollowed := true, recurses := true, apart := false, narrowed := true }
def MagnetBestsUptoSaid : Prop := magnetBestsUptoRow.holds Try.pinned (OpenSpec.upto magnetBestsSpec)

/-- 'agoniclaw06.MagnetWithins', WHERE WHAT IT READS IS OF BULK AT MOST 1048576: true; the input reads as it did. -/
def magnetWithinsUptoRow : OpenClaim := { program := "ytenjelagfbceeaa", sum := "72d97c67b989e52f935f4774ef0b2b004ff36e57261a86aa3a66099b4d075007", func := "agonic/agoniclaw06.MagnetWithins", spec := "magnetWithins", unfollowed := true, recurses := true, apart := false, narrowed := true }
def MagnetWithinsUptoSaid : Prop := magnetWithinsUptoRow.holds Try.pinned (OpenSpec.upto magnetWithinsSpec)

/-- 'agoniclaw06.MagnetNearest', WHERE WHAT IT READS IS OF BULK AT MOST 1048576: true; the input reads as it did. -/
def magnetNearestUptoRow : OpenClaim := { program := "ytenjelagfbceeaa", sum := "72d97c67b989e52f935f4774ef0b2b004ff36e57261a86aa3a66099b4d075007", func := "agonic/agoniclaw06.MagnetNearest", spec := "magnetNearest", unfollowed := true, recurses := true, apart := false, narrowed := true }
def MagnetNearestUptoSaid : Prop := magnetNearestUptoRow.holds Try.pinned (OpenSpec.upto magnetNearestSpec)

/-- 'agoniclaw06.MagnetCertified', WHERE WHAT IT READS IS OF BULK AT MOST 1048576: true; the input reads as it did. -/
def magnetCertifiedUptoRow : OpenClaim := { program := "ytenjelagfbceeaa", sum := "72d97c67b989e52f935f4774ef0b2b004ff36e57261a86aa3a66099b4d075007", func := "agonic/agoniclaw06.MagnetCertified", spec := "magnetCertified", unfollowed := true, recurses := true, apart := false, narrowed := true }
def MagnetCertifiedUptoSaid : Prop := magnetCertifiedUptoRow.holds Try.pinned (OpenSpec.upto magnetCertifiedSpec)

/-- 'agoniclaw06.MagnetReduced', WHERE WHAT IT READS IS OF BULK AT MOST 1048576: true; the input reads as it did. -/
def magnetReducedUptoRow : OpenClaim := { program := "ytenjelagfbceeaa", sum := "72d97c67b989e52f935f4774ef0b2b004ff36e57261a86aa3a66099b4d075007", func := "agonic/agoniclaw06.MagnetReduced", spec := "magnetReduced", unfollowed := true, recurses := true, apart := false, narrowed := true }
def MagnetReducedUptoSaid : Prop := magnetReducedUptoRow.holds Try.pinned (OpenSpec.upto magnetReducedSpec)

/-- 'agoniclaw06.MagnetMoved', WHERE WHAT IT READS IS OF BULK AT MOST 1048576: true; the input reads as it did. -/
def magnetMovedUptoRow : OpenClaim := { program := "ytenjelagfbceeaa", sum := "72d97c67b989e52f935f4774ef0b2b004ff36e57261a86aa3a66099b4d075007", func := "agonic/agoniclaw06.MagnetMoved", spec := "magnetMoved", unfollowed := true, recurses := true, apart := false, narrowed := true }
def MagnetMovedUptoSaid : Prop := magnetMovedUptoRow.holds Try.pinned (OpenSpec.upto magnetMovedSpec)

/-- 'agoniclaw06.MagnetCounted', WHERE WHAT IT READS IS OF BULK AT MOST 1048576: true; the input reads as it did. -/
def magnetCountedUptoRow : OpenClaim := { program := "ytenjelagfbceeaa", sum := "72d97c67b989e52f935f4774ef0b2b004ff36e57261a86aa3a66099b4d075007", func := "agonic/agoniclaw06.MagnetCounted", spec := "magnetCounted", unfollowed := true, recurses := true, apart := false, narrowed := true }
def MagnetCountedUptoSaid : Prop := magnetCountedUptoRow.holds Try.pinned (OpenSpec.upto magnetCountedSpec)

/-- 'agoniclaw06.MagnetKnown', WHERE WHAT IT READS IS OF BULK AT MOST 1048576: true; the input reads as it did. -/
def magnetKnownUptoRow : OpenClaim := { program := "ytenjelagfbceeaa", sum := "72d97c67b989e52f935f4774ef0b2b004ff36e57261a86aa3a66099b4d075007", func := "agonic/agoniclaw06.MagnetKnown", spec := "magnetKnown", unfollowed := true, recurses := true, apart := false, narrowed := true }
def MagnetKnownUptoSaid : Prop := magnetKnownUptoRow.holds Try.pinned (OpenSpec.upto magnetKnownSpec)

end Rows
end Go.Proofs.Ytenjelagfbceeaa
