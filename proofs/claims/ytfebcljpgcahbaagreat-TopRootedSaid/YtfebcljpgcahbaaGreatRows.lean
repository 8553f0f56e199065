/-
  No cell of these rows narrows 'for every input' (looked for: loops, veiled, ifaces, maps, wideKeys, modest, calm, conditions, laid).
  DERIVED. THE GIVEN ROWS OF THIS SEAT. 4 by the template 'for every input the law returns true; each argument reads behind the call as it read before'; 0 by the template 'total and deterministic' (their statements: YtfebcljpgcahbaaGreatTotals.lean).
  GIVEN WITH THE SEED: the statements are not yours to turn. If you find one false, say at which input.
  Laid BY PROGRAM, IN A SANDBOX (cutbox-rows.mjs): the forced cells as the released guide's own fill.sh prints them over the translation a7cdccf7e6de0a71… (all of the seat's roots in one cut). By AI agents, Wed Nov 11 2026. No macro, syntax, notation, axiom, sorry.
-/
import Derived.Test.YtfebcljpgcahbaaGreatChecked
import GoSem.Claim
import GoSem.ClaimJoined
import GoSem.ClaimMapViews
import Derived.JoinedTies
import Derived.KernelRfl
namespace Go.Proofs.YtfebcljpgcahbaaGreat
/- THE CELL 'sum', in the pinned program and in every row, IS THE sha256 OF THE DUMP (.gsa) THAT YtfebcljpgcahbaaGreatProg.lean LOADS. Nothing in Lean hashes anything: it is a label: what it is worth is what the hold of that sum in a sandbox is worth. -/
noncomputable def Tryz.pinned : Pinned := { name := "ytfebcljpgcahbaagreat", sum := "a7cdccf7e6de0a713dc618c2a0c3abe7bb0b7817cf9434070327f3b05afd8e53", checked := Tryz.checked }
namespace Rows
def none {H : Type} : Left H := { results := [], args := [] }

/-- 'agonictop.TopMined': WHATEVER THE INPUT: true; the input reads as it did. -/
def topMinedSpec : ChangeSpec := { name := "topMined", fn := fun _ => fun
  | [d1, d2, d3] => { results := [.lit (.bool true)], args := [d1, d2, d3] }
  | _ => none }
def topMinedRow : OpenClaim := { program := "ytfebcljpgcahbaagreat", sum := "a7cdccf7e6de0a713dc618c2a0c3abe7bb0b7817cf9434070327f3b05afd8e53", func := "agonic/agonictop.TopMined", spec := "topMined", unfollowed := true, recurses := true, plainKeys := false, apart := false }
def TopMinedSaid : Prop := topMinedRow.holds Tryz.pinned (OpenSpec.ofChange topMinedSpec)

/-- ITS FALSE NEIGHBOUR: 'it returns false'. Refute it at one input. -/
def topMinedWrong : ChangeSpec := { name := "topMined", fn := fun _ => fun
  | [d1, d2, d3] => { results := [.lit (.bool false)], args := [d1, d2, d3] }
  | _ => none }
def TopMinedWrongFalsely : Prop := topMinedRow.holds Tryz.pinned (OpenSpec.ofChange topMinedWrong)

/-- 'agonictop.TopRanked': WHATEVER THE INPUT: true; the input reads as it did. -/
def topRankedSpec : ChangeSpec := { name := "topRanked", fn := fun _ => fun
  | [d1, d2] => { results := [.lit (.bool true)], args := [d1, d2] }
  | _ => none }
def topRankedRow : OpenClaim := { program := "ytfebcljpgcahbaagreat", sum := "a7cdccf7e6de0a713dc618c2a0c3abe7bb0b7817cf9434070327f3b05afd8e53", func := "agonic/agonictop.TopRanked", spec := "topRanked", unfollowed := true, recurses := true, plainKeys := false, apart := false }
def TopRankedSaid : Prop := topRankedRow.holds Tryz.pinned (OpenSpec.ofChange topRankedSpec)

/-- ITS FALSE NEIGHBOUR: 'it returns false'. Refute it at one input. -/
def topRankedWrong : ChangeSpec := { name := "topRanked", fn := fun _ => fun
  | [d1, d2] => { results := [.lit (.bool false)], args := [d1, d2] }
  | _ => none }
def TopRankedWrongFalsely : Prop := topRankedRow.holds Tryz.pinned (OpenSpec.ofChange topRankedWrong)

/-- 'agonictop.TopRooted': WHATEVER THE INPUT: true; the input reads as it did. -/
def topRootedSpec : ChangeSpec := { name := "topRooted", fn := fun _ => fun
  | [d1, d2] => { results := [.lit (.bool true)], args := [d1, d2] }
  | _ => none }
def topRootedRow : OpenClaim := { program := "ytfebcljpgcahbaagreat", sum := "a7cdccf7e6de0a713dc618c2a0c3abe7bb0b7817cf9434070327f3b05afd8e53", func := "agonic/agonictop.TopRooted", spec := "topRooted", unfollowed := true, recurses := true, plainKeys := false, apart := false }
def TopRootedSaid : Prop := topRootedRow.holds Tryz.pinned (OpenSpec.ofChange topRootedSpec)

/-- ITS FALSE NEIGHBOUR: 'it returns false'. Refute it at one input. -/
def topRootedWrong : ChangeSpec := { name := "topRooted", fn := fun _ => fun
  | [d1, d2] => { results := [.lit (.bool false)], args := [d1, d2] }
  | _ => none }
def TopRootedWrongFalsely : Prop := topRootedRow.holds Tryz.pinned (OpenSpec.ofChange topRootedWrong)

/-- 'agonictop.TopRead': WHATEVER THE INPUT: true; the input reads as it did. -/
def topReadSpec : ChangeSpec := { name := "topRead", fn := fun _ => fun
  | [d1, d2, d3] => { results := [.lit (.bool true)], args := [d1, d2, d3] }
  | _ => none }
def topReadRow : OpenClaim := { program := "ytfebcljpgcahbaagreat", sum := "a7cdccf7e6de0a713dc618c2a0c3abe7bb0b7817cf9434070327f3b05afd8e53", func := "agonic/agonictop.TopRead", spec := "topRead", inPlace := ["internal/abi.NoEscape", "internal/bytealg.IndexByteString", "internal/bytealg.IndexString", "internal/bytealg.MakeNoZero"], unfollowed := true, recurses := true, named := ["internal/bytealg.MaxLen"], plainKeys := false, apart := false }
def TopReadSaid : Prop := topReadRow.holds Tryz.pinned (OpenSpec.ofChange topReadSpec)

/-- ITS FALSE NEIGHBOUR: 'it returns false'. Refute it at one input. -/
def topReadWrong : ChangeSpec := { name := "topRead", fn := fun _ => fun
  | [d1, d2, d3] => { results := [.lit (.bool false)], args := [d1, d2, d3] }
  | _ => none }
def TopReadWrongFalsely : Prop := topReadRow.holds Tryz.pinned (OpenSpec.ofChange topReadWrong)

/- THE SECOND FORM. 'bulk': how many values and letters a reading holds, each counted each time it is reached (what is shared counts as often as it is met; a slice's spare places count too). A statement '..UptoSaid' is the law's where the arguments, and the package variables that the reading takes, are together of bulk at most 1048576: NARROWER than '..Said'. Prove '..Said' where nothing that the law and all that it calls make is longer than what came in: it says more and counts as full. Else prove '..UptoSaid'. A law counts once. -/
mutual
def uptoBulk {H : Type} : DataW H → Nat
  | .lit (.string bytes) => bytes.length + 1
  | .lit _ => 1
  | .nil => 1
  | .ptr d => uptoBulk d + 1
  | .slice elems spare => uptoBulkAll elems + uptoBulkAll spare + 1
  | .agg parts => uptoBulkAll parts + 1
  | .iface _ d => uptoBulk d + 1
  | .map entries => uptoBulkEntries entries + 1
  | .held _ => 1
def uptoBulkAll {H : Type} : List (DataW H) → Nat
  | [] => 0
  | d :: r => uptoBulk d + uptoBulkAll r
def uptoBulkEntries {H : Type} : List (Lit × DataW H) → Nat
  | [] => 0
  | x :: r => uptoBulkEntry x + uptoBulkEntries r
def uptoBulkEntry {H : Type} : Lit × DataW H → Nat
  | (.string bytes, d) => bytes.length + uptoBulk d + 1
  | (_, d) => uptoBulk d + 1
 end
def uptoSmall : (H : Type) → List (DataW H) → Bool := fun _ ds => decide (uptoBulkAll ds ≤ 1048576)
def OpenSpec.upto (s : _root_.Go.ChangeSpec) : _root_.Go.OpenSpec := { _root_.Go.OpenSpec.ofChange s with cond := some uptoSmall }

/-- 'agonictop.TopMined', WHERE WHAT IT READS IS OF BULK AT MOST 1048576: true; the input reads as it did. -/
def topMinedUptoRow : OpenClaim := { program := "ytfebcljpgcahbaagreat", sum := "a7cdccf7e6de0a713dc618c2a0c3abe7bb0b7817cf9434070327f3b05afd8e53", func := "agonic/agonictop.TopMined", spec := "topMined", unfollowed := true, recurses := true, plainKeys := false, apart := false, narrowed := true }
def TopMinedUptoSaid : Prop := topMinedUptoRow.holds Tryz.pinned (OpenSpec.upto topMinedSpec)

/-- 'agonictop.TopRanked', WHERE WHAT IT READS IS OF BULK AT MOST 1048576: true; the input reads as it did. -/
def topRankedUptoRow : OpenClaim := { program := "ytfebcljpgcahbaagreat", sum := "a7cdccf7e6de0a713dc618c2a0c3abe7bb0b7817cf9434070327f3b05afd8e53", func := "agonic/agonictop.TopRanked", spec := "topRanked", unfollowed := true, recurses := true, plainKeys := false, apart := false, narrowed := true }
def TopRankedUptoSaid : Prop := topRankedUptoRow.holds Tryz.pinned (OpenSpec.upto topRankedSpec)

/-- 'agonictop.TopRooted', WHERE WHAT IT READS IS OF BULK AT MOST 1048576: true; the input reads as it did. -/
def topRootedUptoRow : OpenClaim := { program := "ytfebcljpgcahbaagreat", sum := "a7cdccf7e6de0a713dc618c2a0c3abe7bb0b7817cf9434070327f3b05afd8e53", func := "agonic/agonictop.TopRooted", spec := "topRooted", unfollowed := true, recurses := true, plainKeys := false, apart := false, narrowed := true }
def TopRootedUptoSaid : Prop := topRootedUptoRow.holds Tryz.pinned (OpenSpec.upto topRootedSpec)

/-- 'agonictop.TopRead', WHERE WHAT IT READS IS OF BULK AT MOST 1048576: true; the input reads as it did. -/
def topReadUptoRow : OpenClaim := { program := "ytfebcljpgcahbaagreat", sum := "a7cdccf7e6de0a713dc618c2a0c3abe7bb0b7817cf9434070327f3b05afd8e53", func := "agonic/agonictop.TopRead", spec := "topRead", inPlace := ["internal/abi.NoEscape", "internal/bytealg.IndexByteString", "internal/bytealg.IndexString", "internal/bytealg.MakeNoZero"], unfollowed := true, recurses := true, named := ["internal/bytealg.MaxLen"], plainKeys := false, apart := false, narrowed := true }
def TopReadUptoSaid : Prop := topReadUptoRow.holds Tryz.pinned (OpenSpec.upto topReadSpec)

end Rows
end Go.Proofs.YtfebcljpgcahbaaGreat
