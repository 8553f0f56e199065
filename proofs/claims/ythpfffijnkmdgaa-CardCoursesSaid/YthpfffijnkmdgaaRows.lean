/-
  No cell of these rows narrows 'for every input' (looked for: loops, veiled, ifaces, maps, wideKeys, modest, calm, conditions, laid).
  DERIVED. THE GIVEN ROWS OF THIS SEAT. 12 by the template 'for every input the law returns true; each argument reads behind the call as it read before'; 0 by the template 'total and deterministic' (their statements: YthpfffijnkmdgaaTotals.lean).
  GIVEN WITH THE SEED: the statements are not yours to turn. If you find one false, say at which input.
  Laid BY PROGRAM, IN A SANDBOX (cutbox-rows.mjs): the forced cells as the released guide's own fill.sh prints them over the translation 864f0799e0b6042e… (all of the seat's roots in one cut). By AI agents, Wed Nov 11 2026. No macro, syntax, notation, axiom, sorry.
-/
import Derived.Test.YthpfffijnkmdgaaChecked
import GoSem.Claim
import GoSem.ClaimJoined
import GoSem.ClaimMapViews
import Derived.JoinedTies
import Derived.KernelRfl
namespace Go.Proofs.Ythpfffijnkmdgaa
/- THE CELL 'sum', in the pinned program and in every row, IS THE sha256 OF THE DUMP (.gsa) THAT YthpfffijnkmdgaaProg.lean LOADS. Nothing in Lean hashes anything: it is a label: what it is worth is what the hold of that sum in a sandbox is worth. -/
noncomputable def Try.pinned : Pinned := { name := "ythpfffijnkmdgaa", sum := "864f0799e0b6042ef902fa5c9fdb615a44c949f1f041fb709ed9908f4db2b844", checked := Try.checked }
namespace Rows
def none {H : Type} : Left H := { results := [], args := [] }

/-- 'agoniclaw05.CardReads': WHATEVER THE INPUT: true; the input reads as it did. -/
def cardReadsSpec : ChangeSpec := { name := "cardReads", fn := fun _ => fun
  | [d1, d2] => { results := [.lit (.bool true)], args := [d1, d2] }
  | _ => none }
def cardReadsRow : OpenClaim := { program := "ythpfffijnkmdgaa", sum := "864f0799e0b6042ef902fa5c9fdb615a44c949f1f041fb709ed9908f4db2b844", func := "agonic/agoniclaw05.CardReads", spec := "cardReads", unfollowed := true, recurses := true, apart := false }
def CardReadsSaid : Prop := cardReadsRow.holds Try.pinned (OpenSpec.ofChange cardReadsSpec)

/-- ITS FALSE NEIGHBOUR: 'it returns false'. Refute it at one input. -/
def cardReadsWrong : ChangeSpec := { name := "cardReads", fn := fun _ => fun
  | [d1, d2] => { results := [.lit (.bool false)], args := [d1, d2] }
  | _ => none }
def CardReadsWrongFalsely : Prop := cardReadsRow.holds Try.pinned (OpenSpec.ofChange cardReadsWrong)

/-- 'agoniclaw05.CardCourses': WHATEVER THE INPUT: true; the input reads as it did. -/
def cardCoursesSpec : ChangeSpec := { name := "cardCourses", fn := fun _ => fun
  | [d1, d2] => { results := [.lit (.bool true)], args := [d1, d2] }
  | _ => none }
def cardCoursesRow : OpenClaim := { program := "ythpfffijnkmdgaa", sum := "864f0799e0b6042ef902fa5c9fdb615a44c949f1f041fb709ed9908f4db2b844", func := "agonic/agoniclaw05.CardCourses", spec := "cardCourses", unfollowed := true, recurses := true, apart := false }
def CardCoursesSaid : Prop := cardCoursesRow.holds Try.pinned (OpenSpec.ofChange cardCoursesSpec)

/-- ITS FALSE NEIGHBOUR: 'it returns false'. Refute it at one input. -/
def cardCoursesWrong : ChangeSpec := { name := "cardCourses", fn := fun _ => fun
  | [d1, d2] => { results := [.lit (.bool false)], args := [d1, d2] }
  | _ => none }
def CardCoursesWrongFalsely : Prop := cardCoursesRow.holds Try.pinned (OpenSpec.ofChange cardCoursesWrong)

/-- 'agoniclaw05.CardFollows': WHATEVER THE INPUT: true; the input reads as it did. -/
def cardFollowsSpec : ChangeSpec := { name := "cardFollows", fn := fun _ => fun
  | [d1, d2] => { results := [.lit (.bool true)], args := [d1, d2] }
  | _ => none }
def cardFollowsRow : OpenClaim := { program := "ythpfffijnkmdgaa", sum := "864f0799e0b6042ef902fa5c9fdb615a44c949f1f041fb709ed9908f4db2b844", func := "agonic/agoniclaw05.CardFollows", spec := "cardFollows", unfollowed := true, recurses := true, apart := false }
def CardFollowsSaid : Prop := cardFollowsRow.holds Try.pinned (OpenSpec.ofChange cardFollowsSpec)

/-- ITS FALSE NEIGHBOUR: 'it returns false'. Refute it at one input. -/
def cardFollowsWrong : ChangeSpec := { name := "cardFollows", fn := fun _ => fun
  | [d1, d2] => { results := [.lit (.bool false)], args := [d1, d2] }
  | _ => none }
def CardFollowsWrongFalsely : Prop := cardFollowsRow.holds Try.pinned (OpenSpec.ofChange cardFollowsWrong)

/-- 'agoniclaw05.CardKnows': WHATEVER THE INPUT: true; the input reads as it did. -/
def cardKnowsSpec : ChangeSpec := { name := "cardKnows", fn := fun _ => fun
  | [d1, d2] => { results := [.lit (.bool true)], args := [d1, d2] }
  | _ => none }
def cardKnowsRow : OpenClaim := { program := "ythpfffijnkmdgaa", sum := "864f0799e0b6042ef902fa5c9fdb615a44c949f1f041fb709ed9908f4db2b844", func := "agonic/agoniclaw05.CardKnows", spec := "cardKnows", unfollowed := true, recurses := true, apart := false }
def CardKnowsSaid : Prop := cardKnowsRow.holds Try.pinned (OpenSpec.ofChange cardKnowsSpec)

/-- ITS FALSE NEIGHBOUR: 'it returns false'. Refute it at one input. -/
def cardKnowsWrong : ChangeSpec := { name := "cardKnows", fn := fun _ => fun
  | [d1, d2] => { results := [.lit (.bool false)], args := [d1, d2] }
  | _ => none }
def CardKnowsWrongFalsely : Prop := cardKnowsRow.holds Try.pinned (OpenSpec.ofChange cardKnowsWrong)

/-- 'agoniclaw05.CardOnce': WHATEVER THE INPUT: true; the input reads as it did. -/
def cardOnceSpec : ChangeSpec := { name := "cardOnce", fn := fun _ => fun
  | [d1, d2] => { results := [.lit (.bool true)], args := [d1, d2] }
  | _ => none }
def cardOnceRow : OpenClaim := { program := "ythpfffijnkmdgaa", sum := "864f0799e0b6042ef902fa5c9fdb615a44c949f1f041fb709ed9908f4db2b844", func := "agonic/agoniclaw05.CardOnce", spec := "cardOnce", unfollowed := true, recurses := true, apart := false }
def CardOnceSaid : Prop := cardOnceRow.holds Try.pinned (OpenSpec.ofChange cardOnceSpec)

/-- ITS FALSE NEIGHBOUR: 'it returns false'. Refute it at one input. -/
def cardOnceWrong : ChangeSpec := { name := "cardOnce", fn := fun _ => fun
  | [d1, d2] => { results := [.lit (.bool false)], args := [d1, d2] }
  | _ => none }
def CardOnceWrongFalsely : Prop := cardOnceRow.holds Try.pinned (OpenSpec.ofChange cardOnceWrong)

/-- 'agoniclaw05.CardTurns': WHATEVER THE INPUT: true; the input reads as it did. -/
def cardTurnsSpec : ChangeSpec := { name := "cardTurns", fn := fun _ => fun
  | [d1, d2] => { results := [.lit (.bool true)], args := [d1, d2] }
  | _ => none }
def cardTurnsRow : OpenClaim := { program := "ythpfffijnkmdgaa", sum := "864f0799e0b6042ef902fa5c9fdb615a44c949f1f041fb709ed9908f4db2b844", func := "agonic/agoniclaw05.CardTurns", spec := "cardTurns", unfollowed := true, recurses := true, apart := false }
def CardTurnsSaid : Prop := cardTurnsRow.holds Try.pinned (OpenSpec.ofChange cardTurnsSpec)

/-- ITS FALSE NEIGHBOUR: 'it returns false'. Refute it at one input. -/
def cardTurnsWrong : ChangeSpec := { name := "cardTurns", fn := fun _ => fun
  | [d1, d2] => { results := [.lit (.bool false)], args := [d1, d2] }
  | _ => none }
def CardTurnsWrongFalsely : Prop := cardTurnsRow.holds Try.pinned (OpenSpec.ofChange cardTurnsWrong)

/-- 'agoniclaw05.CardBack': WHATEVER THE INPUT: true; the input reads as it did. -/
def cardBackSpec : ChangeSpec := { name := "cardBack", fn := fun _ => fun
  | [d1, d2] => { results := [.lit (.bool true)], args := [d1, d2] }
  | _ => none }
def cardBackRow : OpenClaim := { program := "ythpfffijnkmdgaa", sum := "864f0799e0b6042ef902fa5c9fdb615a44c949f1f041fb709ed9908f4db2b844", func := "agonic/agoniclaw05.CardBack", spec := "cardBack", unfollowed := true, recurses := true, apart := false }
def CardBackSaid : Prop := cardBackRow.holds Try.pinned (OpenSpec.ofChange cardBackSpec)

/-- ITS FALSE NEIGHBOUR: 'it returns false'. Refute it at one input. -/
def cardBackWrong : ChangeSpec := { name := "cardBack", fn := fun _ => fun
  | [d1, d2] => { results := [.lit (.bool false)], args := [d1, d2] }
  | _ => none }
def CardBackWrongFalsely : Prop := cardBackRow.holds Try.pinned (OpenSpec.ofChange cardBackWrong)

/-- 'agoniclaw05.CardAllowed': WHATEVER THE INPUT: true; the input reads as it did. -/
def cardAllowedSpec : ChangeSpec := { name := "cardAllowed", fn := fun _ => fun
  | [d1, d2] => { results := [.lit (.bool true)], args := [d1, d2] }
  | _ => none }
def cardAllowedRow : OpenClaim := { program := "ythpfffijnkmdgaa", sum := "864f0799e0b6042ef902fa5c9fdb615a44c949f1f041fb709ed9908f4db2b844", func := "agonic/agoniclaw05.CardAllowed", spec := "cardAllowed", unfollowed := true, recurses := true, apart := false }
def CardAllowedSaid : Prop := cardAllowedRow.holds Try.pinned (OpenSpec.ofChange cardAllowedSpec)

/-- ITS FALSE NEIGHBOUR: 'it returns false'. Refute it at one input. -/
def cardAllowedWrong : ChangeSpec := { name := "cardAllowed", fn := fun _ => fun
  | [d1, d2] => { results := [.lit (.bool false)], args := [d1, d2] }
  | _ => none }
def CardAllowedWrongFalsely : Prop := cardAllowedRow.holds Try.pinned (OpenSpec.ofChange cardAllowedWrong)

/-- 'agoniclaw05.CardFollowed': WHATEVER THE INPUT: true; the input reads as it did. -/
def cardFollowedSpec : ChangeSpec := { name := "cardFollowed", fn := fun _ => fun
  | [d1, d2, d3] => { results := [.lit (.bool true)], args := [d1, d2, d3] }
  | _ => none }
def cardFollowedRow : OpenClaim := { program := "ythpfffijnkmdgaa", sum := "864f0799e0b6042ef902fa5c9fdb615a44c949f1f041fb709ed9908f4db2b844", func := "agonic/agoniclaw05.CardFollowed", spec := "cardFollowed", unfollowed := true, recurses := true, apart := false }
def CardFollowedSaid : Prop := cardFollowedRow.holds Try.pinned (OpenSpec.ofChange cardFollowedSpec)

/-- ITS FALSE NEIGHBOUR: 'it returns false'. Refute it at one input. -/
def cardFollowedWrong : ChangeSpec := { name := "cardFollowed", fn := fun _ => fun
  | [d1, d2, d3] => { results := [.lit (.bool false)], args := [d1, d2, d3] }
  | _ => none }
def CardFollowedWrongFalsely : Prop := cardFollowedRow.holds Try.pinned (OpenSpec.ofChange cardFollowedWrong)

/-- 'agoniclaw05.CardTrue': WHATEVER THE INPUT: true; the input reads as it did. -/
def cardTrueSpec : ChangeSpec := { name := "cardTrue", fn := fun _ => fun
  | [d1, d2, d3, d4] => { results := [.lit (.bool true)], args := [d1, d2, d3, d4] }
  | _ => none }
def cardTrueRow : OpenClaim := { program := "ythpfffijnkmdgaa", sum := "864f0799e0b6042ef902fa5c9fdb615a44c949f1f041fb709ed9908f4db2b844", func := "agonic/agoniclaw05.CardTrue", spec := "cardTrue", unfollowed := true, recurses := true, apart := false }
def CardTrueSaid : Prop := cardTrueRow.holds Try.pinned (OpenSpec.ofChange cardTrueSpec)

/-- ITS FALSE NEIGHBOUR: 'it returns false'. Refute it at one input. -/
def cardTrueWrong : ChangeSpec := { name := "cardTrue", fn := fun _ => fun
  | [d1, d2, d3, d4] => { results := [.lit (.bool false)], args := [d1, d2, d3, d4] }
  | _ => none }
def CardTrueWrongFalsely : Prop := cardTrueRow.holds Try.pinned (OpenSpec.ofChange cardTrueWrong)

/-- 'agoniclaw05.CardGreater': WHATEVER THE INPUT: true; the input reads as it did. -/
def cardGreaterSpec : ChangeSpec := { name := "cardGreater", fn := fun _ => fun
  | [d1, d2, d3, d4] => { results := [.lit (.bool true)], args := [d1, d2, d3, d4] }
  | _ => none }
def cardGreaterRow : OpenClaim := { program := "ythpfffijnkmdgaa", sum := "864f0799e0b6042ef902fa5c9fdb615a44c949f1f041fb709ed9908f4db2b844", func := "agonic/agoniclaw05.CardGreater", spec := "cardGreater", unfollowed := true, recurses := true, apart := false }
def CardGreaterSaid : Prop := cardGreaterRow.holds Try.pinned (OpenSpec.ofChange cardGreaterSpec)

/-- ITS FALSE NEIGHBOUR: 'it returns false'. Refute it at one input. -/
def cardGreaterWrong : ChangeSpec := { name := "cardGreater", fn := fun _ => fun
  | [d1, d2, d3, d4] => { results := [.lit (.bool false)], args := [d1, d2, d3, d4] }
  | _ => none }
def CardGreaterWrongFalsely : Prop := cardGreaterRow.holds Try.pinned (OpenSpec.ofChange cardGreaterWrong)

/-- 'agoniclaw05.CardKnown': WHATEVER THE INPUT: true; the input reads as it did. -/
def cardKnownSpec : ChangeSpec := { name := "cardKnown", fn := fun _ => fun
  | [] => { results := [.lit (.bool true)], args := [] }
  | _ => none }
def cardKnownRow : OpenClaim := { program := "ythpfffijnkmdgaa", sum := "864f0799e0b6042ef902fa5c9fdb615a44c949f1f041fb709ed9908f4db2b844", func := "agonic/agoniclaw05.CardKnown", spec := "cardKnown", unfollowed := true, recurses := true, apart := false }
def CardKnownSaid : Prop := cardKnownRow.holds Try.pinned (OpenSpec.ofChange cardKnownSpec)

/-- ITS FALSE NEIGHBOUR: 'it returns false'. Refute it at one input. -/
def cardKnownWrong : ChangeSpec := { name := "cardKnown", fn := fun _ => fun
  | [] => { results := [.lit (.bool false)], args := [] }
  | _ => none }
def CardKnownWrongFalsely : Prop := cardKnownRow.holds Try.pinned (OpenSpec.ofChange cardKnownWrong)

/- THE SECOND FORM. 'bulk': how many values and letters a reading holds, each counted each time it is reached (what is shared counts as often as it is met; a slice's spare places count too). A statement '..UptoSaid' is the law's where the arguments, and the package variables that the reading takes, are together of bulk at most 1048576: NARROWER than '..Said'. Prove '..Said' where nothing that the law and all that it calls make is longer than what came in: it says more and counts as full. Else prove '..UptoSaid'. A law counts once. -/
mutual
def uptoBulk {H : Type} : DataW H → Nat
  | .lit (.string bytes) => bytes.length + 1
  | .lit _ => 1
  | .nil => 1
  | .ptr d => uptoBulk d + 1
  | .slice elems spare => uptoBulkAll elems + uptoBulkAll spare + 1
  | .agg parts => uptoBulkAll parts + 1
  | .iface _ d => uptoBulk d + 1
  | .map entries => uptoBulkEntries entries + 1
  | .held _ => 1
def uptoBulkAll {H : Type} : List (DataW H) → Nat
  | [] => 0
  | d :: r => uptoBulk d + uptoBulkAll r
def uptoBulkEntries {H : Type} : List (Lit × DataW H) → Nat
  | [] => 0
  | x :: r => uptoBulkEntry x + uptoBulkEntries r
def uptoBulkEntry {H : Type} : Lit × DataW H → Nat
  | (.string bytes, d) => bytes.length + uptoBulk d + 1
  | (_, d) => uptoBulk d + 1
 end
def uptoSmall : (H : Type) → List (DataW H) → Bool := fun _ ds => decide (uptoBulkAll ds ≤ 1048576)
def OpenSpec.upto (s : _root_.Go.ChangeSpec) : _root_.Go.OpenSpec := { _root_.Go.OpenSpec.ofChange s with cond := some uptoSmall }

/-- 'agoniclaw05.CardReads', WHERE WHAT IT READS IS OF BULK AT MOST 1048576: true; the input reads as it did. -/
def cardReadsUptoRow : OpenClaim := { program := "ythpfffijnkmdgaa", sum := "864f0799e0b6042ef902fa5c9fdb615a44c949f1f041fb709ed9908f4db2b844", func := "agonic/agoniclaw05.CardReads", spec := "cardReads", unfollowed := true, recurses := true, apart := false, narrowed := true }
def CardReadsUptoSaid : Prop := cardReadsUptoRow.holds Try.pinned (OpenSpec.upto cardReadsSpec)

/-- 'agoniclaw05.CardCourses', WHERE WHAT IT READS IS OF BULK AT MOST 1048576: true; the input reads as it did. -/
def cardCoursesUptoRow : OpenClaim := { program := "ythpfffijnkmdgaa", sum := "864f0799e0b6042ef902fa5c9fdb615a44c949f1f041fb709ed9908f4db2b844", func := "agonic/agoniclaw05.CardCourses", spec := "cardCourses", unfollowed := true, recurses := true, apart := false, narrowed := true }
def CardCoursesUptoSaid : Prop := cardCoursesUptoRow.holds Try.pinned (OpenSpec.upto cardCoursesSpec)

/-- 'agoniclaw05.CardFollows', WHERE WHAT IT READS IS OF BULK AT MOST 1048576: true; the input reads as it did. -/
def cardFollowsUptoRow : OpenClaim := { program := "ythpfffijnkmdgaa", sum := "864f0799e0b6042ef902fa5c9fdb615a44c949f1f041fb709ed9908f4db2b844", func := "agonic/agoniclaw05.CardFollows", spec := "cardFollows", unfollowed := true, recurses := true, apart := false, narrowed := true }
def CardFollowsUptoSaid : Prop := cardFollowsUptoRow.holds Try.pinned (OpenSpec.upto cardFollowsSpec)

/-- 'agoniclaw05.CardKnows', WHERE WHAT IT READS IS OF BULK AT MOST 1048576: true; the input reads as it did. -/
def cardKnowsUptoRow : OpenClaim := { program := "ythpfffijnkmdgaa", sum := "864f0799e0b6042ef902fa5c9fdb615a44c949f1f041fb709ed9908f4db2b844", func := "agonic/agoniclaw05.CardKnows", spec := "cardKnows", unfollowed := true, recurses := true, apart := false, narrowed := true }
def CardKnowsUptoSaid : Prop := cardKnowsUptoRow.holds Try.pinned (OpenSpec.upto cardKnowsSpec)

/-- 'agoniclaw05.CardOnce', WHERE WHAT IT READS IS OF BULK AT MOST 1048576: true; the input reads as it did. -/
def cardOnceUptoRow : OpenClaim := { program := "ythpfffijnkmdgaa", sum := "864f0799e0b6042ef902fa5c9fdb615a44c949f1f041fb709ed9908f4db2b844", func := "agonic/agoniclaw05.CardOnce", spec := "cardOnce", unfollowed := true, recurses := true, apart := false, narrowed := true }
def CardOnceUptoSaid : Prop := cardOnceUptoRow.holds Try.pinned (OpenSpec.upto cardOnceSpec)

/-- 'agoniclaw05.CardTurns', WHERE WHAT IT READS IS OF BULK AT MOST 1048576: true; the input reads as it did. -/
def cardTurnsUptoRow : OpenClaim := { program := "ythpfffijnkmdgaa", sum := "864f0799e0b6042ef902fa5c9fdb615a44c949f1f041fb709ed9908f4db2b844", func := "agonic/agoniclaw05.CardTurns", spec := "cardTurns", unfollowed := true, recurses := true, apart := false, narrowed := true }
def CardTurnsUptoSaid : Prop := cardTurnsUptoRow.holds Try.pinned (OpenSpec.upto cardTurnsSpec)

/-- 'agoniclaw05.CardBack', WHERE WHAT IT READS IS OF BULK AT MOST 1048576: true; the input reads as it did. -/
def cardBackUptoRow : OpenClaim := { program := "ythpfffijnkmdgaa", sum := "864f0799e0b6042ef902fa5c9fdb615a44c949f1f041fb709ed9908f4db2b844", func := "agonic/agoniclaw05.CardBack", spec := "cardBack", unfollowed := true, recurses := true, apart := false, narrowed := true }
def CardBackUptoSaid : Prop := cardBackUptoRow.holds Try.pinned (OpenSpec.upto cardBackSpec)

/-- 'agoniclaw05.CardAllowed', WHERE WHAT IT READS IS OF BULK AT MOST 1048576: true; the input reads as it did. -/
def cardAllowedUptoRow : OpenClaim := { program := "ythpfffijnkmdgaa", sum := "864f0799e0b6042ef902fa5c9fdb615a44c949f1f041fb709ed9908f4db2b844", func := "agonic/agoniclaw05.CardAllowed", spec := "cardAllowed", unfollowed := true, recurses := true, apart := false, narrowed := true }
def CardAllowedUptoSaid : Prop := cardAllowedUptoRow.holds Try.pinned (OpenSpec.upto cardAllowedSpec)

/-- 'agoniclaw05.CardFollowed', WHERE WHAT IT READS IS OF BULK AT MOST 1048576: true; the input reads as it did. -/
def cardFollowedUptoRow : OpenClaim := { program := "ythpfffijnkmdgaa", sum := "864f0799e0b6042ef902fa5c9fdb615a44c949f1f041fb709ed9908f4db2b844", func := "agonic/agoniclaw05.CardFollowed", spec := "cardFollowed", unfollowed := true, recurses := true, apart := false, narrowed := true }
def CardFollowedUptoSaid : Prop := cardFollowedUptoRow.holds Try.pinned (OpenSpec.upto cardFollowedSpec)

/-- 'agoniclaw05.CardTrue', WHERE WHAT IT READS IS OF BULK AT MOST 1048576: true; the input reads as it did. -/
def cardTrueUptoRow : OpenClaim := { program := "ythpfffijnkmdgaa", sum := "864f0799e0b6042ef902fa5c9fdb615a44c949f1f041fb709ed9908f4db2b844", func := "agonic/agoniclaw05.CardTrue", spec := "cardTrue", unfollowed := true, recurses := true, apart := false, narrowed := true }
def CardTrueUptoSaid : Prop := cardTrueUptoRow.holds Try.pinned (OpenSpec.upto cardTrueSpec)

/-- 'agoniclaw05.CardGreater', WHERE WHAT IT READS IS OF BULK AT MOST 1048576: true; the input reads as it did. -/
def cardGreaterUptoRow : OpenClaim := { program := "ythpfffijnkmdgaa", sum := "864f0799e0b6042ef902fa5c9fdb615a44c949f1f041fb709ed9908f4db2b844", func := "agonic/agoniclaw05.CardGreater", spec := "cardGreater", unfollowed := true, recurses := true, apart := false, narrowed := true }
def CardGreaterUptoSaid : Prop := cardGreaterUptoRow.holds Try.pinned (OpenSpec.upto cardGreaterSpec)

/-- 'agoniclaw05.CardKnown', WHERE WHAT IT READS IS OF BULK AT MOST 1048576: true; the input reads as it did. -/
def cardKnownUptoRow : OpenClaim := { program := "ythpfffijnkmdgaa", sum := "864f0799e0b6042ef902fa5c9fdb615a44c949f1f041fb709ed9908f4db2b844", func := "agonic/agoniclaw05.CardKnown", spec := "cardKnown", unfollowed := true, recurses := true, apart := false, narrowed := true }
def CardKnownUptoSaid : Prop := cardKnownUptoRow.holds Try.pinned (OpenSpec.upto cardKnownSpec)

end Rows
end Go.Proofs.Ythpfffijnkmdgaa
