/- The first truth is a truth; a chain is there just if a case leads to another one. -/
import Derived.Test.YtiaippkjgmccoaaLK7
set_option linter.unusedVariables false
namespace Go.Proofs.Ytiaippkjgmccoaa.plain
open Go Go.Cl
section
variable {T : Int} {rs : Rules} {l : List Case}
noncomputable def said (rs : Rules) : Nat → Int → List Case → List Case
 | 0, _, _ => []
 | d + 1, t, now => (t, !ag rs (now ++ [(t, false)])) :: said rs d (t + 1) (now ++ [(t, !ag rs (now ++ [(t, false)]))])
theorem said_agrees (hw : ¬ Wrong rs) : ∀ (d : Nat) (t : Int) (now : List Case), Agrees rs now → Agrees rs (now ++ said rs d t now) := by
 intro d
 induction d with
 | zero => intro t now h; rw [said, List.append_nil]; exact h
 | succ d ih =>
  intro t now h
  rw [said]
  have hc : Agrees rs (now ++ [((t, !ag rs (now ++ [(t, false)])) : Case)]) := by
   cases ha : ag rs (now ++ [(t, false)])
   · have hn : ¬ Agrees rs (now ++ [((t, false) : Case)]) := fun g => by rw [ag_iff.2 g] at ha; cases ha
     exact extend hw h hn
   exact ag_iff.1 ha
  have := ih (t + 1) _ hc
  rwa [List.append_assoc] at this
theorem said_at : ∀ (d : Nat) (t : Int) (now : List Case) (i : Nat), i < d → (t + i, (first rs d t now).getD i false) ∈ said rs d t now := by
 intro d
 induction d with
 | zero => intro t now i h; omega
 | succ d ih =>
  intro t now i h
  rw [said, first]
  cases i with
  | zero => simp
  | succ i =>
   have := ih (t + 1) (now ++ [(t, !ag rs (now ++ [(t, false)]))]) i (by omega)
   rw [List.getD_cons_succ]
   refine List.mem_cons_of_mem _ ?_
   rwa [show t + ((i + 1 : Nat) : Int) = t + 1 + (i : Int) by push_cast; omega]
noncomputable def fv (T : Int) (rs : Rules) (l : List Case) (t : Int) : Bool := (first rs T.toNat 0 l).getD t.toNat false
theorem first_said {c : Case} (h0 : 0 ≤ c.1) (h1 : c.1 < T) : (c.1, fv T rs l c.1) ∈ said rs T.toNat 0 l := by
 have := said_at (rs := rs) T.toNat 0 l c.1.toNat (by omega)
 rwa [show (0 : Int) + (c.1.toNat : Int) = c.1 by omega] at this
theorem first_true (hv : okR T rs) (hw : ¬ Wrong rs) (ha : Agrees rs l) (ho : ∀ c ∈ l, okC T c) : Sat rs (fv T rs l) ∧ ∀ c ∈ l, so (fv T rs l) c := by
 have hA := said_agrees hw T.toNat 0 l ha
 have h2 : ∀ x ∈ l ++ said rs T.toNat 0 l, okC T x → so (fv T rs l) x := fun x hx hok => by
  refine Classical.byContradiction fun hn => ?_
  have hm := first_said (rs := rs) (l := l) hok.1 hok.2
  have e : (x.1, fv T rs l x.1) = ctr x := by
   unfold ctr
   unfold so at hn
   cases h : fv T rs l x.1 <;> cases h' : x.2 <;> rw [h, h'] at hn <;> first | rfl | exact absurd rfl hn
  rw [e] at hm
  have := agrees_iff.1 hA x hx (ctr x) (List.mem_append_right _ hm)
  rw [ctr_ctr] at this
  exact this .refl
 refine ⟨?_, fun c hc => h2 c (List.mem_append_left _ hc) (ho c hc)⟩
 intro r hr
 obtain ⟨oa, ob⟩ := hv r hr
 refine Classical.byContradiction fun hn => ?_
 have na : ¬ so (fv T rs l) r.1 := fun g => hn (.inl g)
 have nb : ¬ so (fv T rs l) r.2 := fun g => hn (.inr g)
 have ma := first_said (rs := rs) (l := l) oa.1 oa.2
 have mb := first_said (rs := rs) (l := l) ob.1 ob.2
 have ea : ∀ x : Case, ¬ so (fv T rs l) x → (x.1, fv T rs l x.1) = ctr x := fun x hn => by
  unfold ctr
  unfold so at hn
  cases h : fv T rs l x.1 <;> cases h' : x.2 <;> rw [h, h'] at hn <;> first | rfl | exact absurd rfl hn
 rw [ea _ na] at ma
 rw [ea _ nb] at mb
 have := agrees_iff.1 hA _ (List.mem_append_right _ ma) _ (List.mem_append_right _ mb)
 rw [ctr_ctr] at this
 exact this (.one ⟨r, hr, .inl ⟨(ctr_ctr _).symm, rfl⟩⟩)
end
end Go.Proofs.Ytiaippkjgmccoaa.plain
