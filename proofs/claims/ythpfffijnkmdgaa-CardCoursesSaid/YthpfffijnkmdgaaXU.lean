/- The next power of two. -/
import Derived.Test.YthpfffijnkmdgaaXB
import Derived.Test.YthpfffijnkmdgaaUSh
set_option linter.unusedVariables false
set_option linter.unusedSimpArgs false
set_option maxRecDepth 100000
set_option maxHeartbeats 4000000
namespace Go.Proofs.Ythpfffijnkmdgaa
open Go Go.Cl
noncomputable def env119 : Cl.Env := { P := Try.prog, sum := fun _ => none, imp := fun _ => false, strict := true }
def pow2 (n : Nat) : Nat := if n < 16 then 16 else if n < 32 then 32 else if n < 64 then 64 else 128
def F119 (n : Int) : Option Int := if 8 ≤ n ∧ n < 73 then some (pow2 n.toNat : Int) else none
def V119 (b : Nat) (r : Int) : Value := .int .u64 r
def N119 (b : Nat) (r : Int) : List Blk := []
theorem R119 : (List.range 65).map (fun k => (run env119 3000).pcall 119 [.int .i64 ((8 + k : Nat) : Int)] []) = (List.range 65).map (fun k => some (.int .u64 (pow2 (8 + k) : Int), [])) := by kernel_rfl
theorem C119 (p0 : Int) (r : Int) (hF : F119 p0 = some r) : PureSim Try.prog 119 [.int .i64 p0] [] (V119 0 r) (N119 0 r) := by
 unfold F119 at hF
 split at hF
 · rename_i h
   obtain ⟨n, rfl⟩ : ∃ n : Nat, p0 = ((8 + n : Nat) : Int) := ⟨(p0 - 8).toNat, by omega⟩
   have e := Option.some.inj hF
   subst e
   exact answer (Cl.sumOk_none fun _ => rfl) mixed (ofMap R119 (k := n) (by omega))
 cases hF
end Go.Proofs.Ythpfffijnkmdgaa
