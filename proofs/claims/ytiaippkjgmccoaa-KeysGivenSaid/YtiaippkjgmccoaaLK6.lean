/- Chains that prove that a book is not possible. -/
import Derived.Test.YtiaippkjgmccoaaLK5
import Derived.Test.YtiaippkjgmccoaaKP
set_option linter.unusedVariables false
namespace Go.Proofs.Ytiaippkjgmccoaa.plain
open Go Go.Cl
section
variable {T : Int} {rs : Rules} {l : List Case}
theorem chain_ok (h : chk T rs = 0) {m0 : Map} {x y : Case} (hx : okC T x) (hr : Reach rs x y) (hy : okC T y) : ∃ m a, F67 1 T rs m0 [x] = some m ∧ F69 T rs m y.1 y.2 = some a ∧ at_ a 0 = x ∧ at_ a (a.length - 1) = y ∧ ver T rs a = 0 := by
 obtain ⟨t1, t2, t3, hv⟩ := chk_ok h
 obtain ⟨m, D, fr, F⟩ := reach_ok (T0 := m0) hv t2 (by omega) (l := [x]) (by simp) (fun c hc => by rw [List.mem_singleton.1 hc]; exact hx)
 obtain ⟨out, fo_, G⟩ := F70_eq hv t2 (by omega) hx
 have hm : met m y := (F.from_ y).2 (from_one.2 hr)
 have ex := exact_ hv hx F G hm
 have hb := G.rng y hy
 obtain ⟨a, fa, a1, a2, a3, a4, a5⟩ := F69_eq F hm (by omega)
 refine ⟨m, a, fr, fa, a2, by rw [a1]; exact a3, ?_⟩
 unfold ver
 rw [if_neg (by simp [h]), if_neg (by omega), if_neg (by omega), if_neg (by rw [inC_iff.2 a5]; simp), if_pos a4]
end
end Go.Proofs.Ytiaippkjgmccoaa.plain
