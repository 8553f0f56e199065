/- Chains: as short as stated, and accepted as stated. -/
import Derived.Test.YtiaippkjgmccoaaLK4
import Derived.Test.YtiaippkjgmccoaaKF
set_option linter.unusedVariables false
namespace Go.Proofs.Ytiaippkjgmccoaa.plain
open Go Go.Cl
section
variable {T : Int} {rs : Rules} {l : List Case} {x : Case} {m : Map} {D : Case → Nat}
theorem exact_ {out : List Int} (hv : okR T rs) (hx : okC T x) (F : Found T rs [x] m D) (G : Far T rs x out) {y : Case} (hy : met m y) : lv out y = D y + 1 := by
 have up : ∀ (n : Nat) (y : Case), D y = n → met m y → 1 ≤ lv out y ∧ lv out y ≤ n + 1 := by
  intro n
  induction n with
  | zero =>
   intro y hd hm
   cases hv' : mget m y with
   | none => exact absurd hv' hm
   | some v =>
    rcases F.par y v hv' with ⟨a, _, _⟩ | ⟨_, _, _, b⟩
    · rw [(G.one y (F.ok y hm)).2 (List.mem_singleton.1 a)]; exact ⟨by decide, by decide⟩
    omega
  | succ n ih =>
   intro y hd hm
   cases hv' : mget m y with
   | none => exact absurd hv' hm
   | some v =>
    rcases F.par y v hv' with ⟨_, _, b⟩ | ⟨_, e, a, b⟩
    · omega
    obtain ⟨i1, i2⟩ := ih v (by omega) a
    have := G.cl v (F.ok v a) i1 y e
    push_cast
    omega
 have low : ∀ (n : Nat) (y : Case), okC T y → lv out y = n + 1 → D y ≤ n := by
  intro n
  induction n with
  | zero =>
   intro y hok e
   have ey := (G.one y hok).1 (by simpa using e)
   have hm : met m y := (F.from_ y).2 (by rw [ey]; exact from_one.2 .refl)
   cases hv' : mget m y with
   | none => exact absurd hv' hm
   | some v =>
    rcases F.par y v hv' with ⟨_, _, b⟩ | ⟨a, _, _, _⟩
    · omega
    exact absurd (by rw [ey]; simp) a
  | succ n ih =>
   intro y hok e
   obtain ⟨z, hz, e1, e2⟩ := G.par y hok ((n : Int) + 1) (by omega) (by rw [e]; push_cast; rfl)
   have i := ih z hz e1
   have hm : met m z := (F.from_ z).2 (from_one.2 ((G.iff hv hx hz).1 (by omega)))
   have := F.near z y hm e2
   omega
 obtain ⟨u1, u2⟩ := up (D y) y rfl hy
 have := low (lv out y - 1).toNat y (F.ok y hy) (by omega)
 omega
end
end Go.Proofs.Ytiaippkjgmccoaa.plain
