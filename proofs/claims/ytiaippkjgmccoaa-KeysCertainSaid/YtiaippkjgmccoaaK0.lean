/- What is told of agrees and of reach, for the runs of the examples. -/
import Derived.Test.YtiaippkjgmccoaaA57
namespace Go.Proofs.Ytiaippkjgmccoaa.worked
open Go
set_option linter.unusedVariables false
set_option maxRecDepth 100000
noncomputable def env0 : Cl.Env := { agrees.env0 with isum := agrees.sums }
theorem mixed : env0.P.follows .mixedOrders = true := agrees.mixed
theorem told : ∀ g s args base h v h1, env0.isum g = some s → s args base h = some (v, h1) → Cl.ImpSim env0.P g args base h v h1 := agrees.sums_ok
theorem ok0 : Cl.SumOk env0 := ⟨fun g s args h v new hs hv => absurd (show none = some s from hs) (by simp), told⟩
end Go.Proofs.Ytiaippkjgmccoaa.worked
