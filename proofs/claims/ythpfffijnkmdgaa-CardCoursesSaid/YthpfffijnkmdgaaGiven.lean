/- The chapter's examples hold, whatever lies in memory. -/
import Derived.Test.YthpfffijnkmdgaaWorked
import Derived.Test.YthpfffijnkmdgaaTs8
namespace Go.Proofs.Ythpfffijnkmdgaa
open Go Go.Cl
def F15 : Option Bool := some true
def V15 (b : Nat) (r : Bool) : Value := .bool r
def N15 (b : Nat) (r : Bool) : List Blk := []
theorem anyHeap {P : Program} {f : FuncId} {new : List Cl.Blk} (hP : Cl.PureSim P f [] [] (.bool true) new) (h : List Cl.Blk) : Cl.PureSim P f [] h (.bool true) [] := by
 refine ⟨hP.1, fun D β κ w args' hD hR ha => ?_⟩
 cases ha.unnil
 refine Calls.mono (hP.2 (fun _ => False) (fun _ => (0, 0)) (fun _ => 0) w [] (fun i hi => hi.elim) (Cl.Rel.empty _ w) .nil) ?_
 rintro e w' ⟨v', β', κ', rfl, hQ⟩
 have hv := hQ.val
 cases hv
 exact ⟨_, β, κ, rfl, { ext := fun _ _ => ⟨rfl, rfl⟩, val := .bool _, below := hQ.below, keep := fun B hB _ => hQ.below.block B hB, new := fun j b hj => by simp at hj, inj := fun i j b c hi => by simp at hi, upd := fun k b hk => by cases hk }⟩
theorem C15 (r : Bool) (hF : F15 = some r) : PureSim Try.prog 15 [] [] (V15 0 r) (N15 0 r) := by
 have hr : true = r := Option.some.inj hF
 subst hr
 obtain ⟨n_w, hw⟩ := Cl.saysTrue_spec worked.works
 exact anyHeap (Cl.answer worked.ok1 worked.mixed hw) []
end Go.Proofs.Ythpfffijnkmdgaa
