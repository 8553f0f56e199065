/- First, Certain and Broken answer as the reference does. -/
import Derived.Test.YtiaippkjgmccoaaLK3
set_option linter.unusedVariables false
namespace Go.Proofs.Ytiaippkjgmccoaa.plain
open Go Go.Cl
section
variable {T : Int} {rs : Rules} {l : List Case}
theorem cons_get {α : Type} {l : List α} {v : Nat} (d : α) (hlt : v < l.length) : l.getD v d = l[v] := by rw [List.getD_eq_getElem?_getD, List.getElem?_eq_getElem hlt]; rfl
theorem w64_up {v : Nat} (h : v ≤ 1000000) : w64 ((v : Int) + 1) = ((v + 1 : Nat) : Int) := by rw [w64_in (by omega) (by omega)]; omega
def hb (vals : List Bool) (c : Case) : Bool := vals.getD c.1.toNat false == c.2
theorem F62_eq {vals : List Bool} {c : Case} (hT : (vals.length : Int) = T) (hc : okC T c) : F62 c.1 c.2 vals = some (hb vals c) := by
 unfold F62
 rw [if_pos ⟨hc.1, by rw [hT]; exact hc.2⟩]
 rfl
theorem ok_snoc {t : Int} {b : Bool} (ho : ∀ y ∈ l, okC T y) (h0 : 0 ≤ t) (h1 : t < T) : ∀ y ∈ l ++ [((t, b) : Case)], okC T y := fun y hy => by
 rcases List.mem_append.1 hy with h | h
 · exact ho y h
 rw [List.mem_singleton.1 h]; exact ⟨h0, h1⟩
noncomputable def first (rs : Rules) : Nat → Int → List Case → List Bool
 | 0, _, _ => []
 | d + 1, t, now => (!ag rs (now ++ [(t, false)])) :: first rs d (t + 1) (now ++ [(t, !ag rs (now ++ [(t, false)]))])
noncomputable def cert (rs : Rules) (l : List Case) : Nat → Int → List Int
 | 0, _ => []
 | d + 1, t => (if ag rs (l ++ [(t, true)]) then if ag rs (l ++ [(t, false)]) then 2 else 1 else 0) :: cert rs l d (t + 1)
theorem len_cert (rs : Rules) (l : List Case) : ∀ (d : Nat) (t : Int), (cert rs l d t).length = d
 | 0, _ => rfl
 | d + 1, t => by rw [cert, List.length_cons, len_cert]
theorem ite_one (b : Bool) : (if (!b) = true then some (1 : Int) else some 2) = some (if b then 2 else 1) := by cases b <;> rfl
theorem ite_zero (b : Bool) (x : Int) : (if (!b) = true then some (0 : Int) else some x) = some (if b then x else 0) := by cases b <;> rfl
theorem cert_loop (hv : okR T rs) (h0 : 0 ≤ T) (hT : T ≤ 24) (hrs : rs.length ≤ 100) (hl : l.length ≤ 30) (ho : ∀ y ∈ l, okC T y) : ∀ (d : Nat) (t : Int) (m : Map) (out : List Int), 0 ≤ t → t + d = T → (out.length : Int) ≤ t →
 F20l0 T rs l out t m = some (out ++ cert rs l d t) := by
 intro d
 induction d with
 | zero => intro t m out a b o; rw [F20l0, if_neg (by simp; omega)]; simp [cert]
 | succ d ih =>
  intro t m out a b o
  have ob : ∀ b, ∀ y ∈ l ++ [((t, b) : Case)], okC T y := fun b => ok_snoc ho a (by omega)
  obtain ⟨m1, f1⟩ := F57_eq (T0 := m) hv hT hrs (l := l ++ [(t, false)]) (by simp; omega) (ob _)
  obtain ⟨m2, f2⟩ := F57_eq (T0 := m1) hv hT hrs (l := l ++ [(t, true)]) (by simp; omega) (ob _)
  rw [F20l0, if_pos (by simp; omega), if_pos (by omega), f1]
  simp only [Option.bind_eq_bind, Option.bind_some, ite_one]
  rw [f2]
  simp only [Option.bind_some, ite_zero]
  rw [if_pos (by omega), w64_in (by omega) (by omega), ih (t + 1) _ _ (by omega) (by omega) (by simp; omega), cert, List.append_assoc]
  rfl
noncomputable def err (T : Int) (rs : Rules) (l : List Case) : Int := if chk2 T rs l ≠ 0 then chk2 T rs l else if wr rs = false ∧ ag rs l = true then 0 else 13
theorem chk2_ok (h : chk2 T rs l = 0) : 1 ≤ T ∧ T ≤ 24 ∧ rs.length ≤ 80 ∧ okR T rs ∧ l.length ≤ 24 ∧ ∀ y ∈ l, okC T y := by
 unfold chk2 at h
 split at h
 · exact absurd h (by assumption)
 rename_i h1
 obtain ⟨a, b, c, d⟩ := chk_ok (Classical.not_not.1 h1)
 split at h
 · exact absurd h (by decide)
 split at h
 · rename_i h2 h3; exact ⟨a, b, c, d, by omega, inC_iff.1 h3⟩
 exact absurd h (by decide)
theorem ask_eq (hrs : rs.length ≤ 1000) (hl : l.length ≤ 1000) {γ : Type} (bad : Int → γ) (K : Map → Option γ) :
 (∃ m, ((F26 T rs).bind fun r1 => if (r1 != 0) = true then some (bad r1) else if decide ((l.length : Int) > 24) = true then some (bad 3) else
  (F64 T rs l).bind fun r5 => if (!r5) = true then some (bad 6) else (F75 1 T rs []).bind fun r8 =>
   (if r8.2.1 = true then some (true, r8.2.2) else (F57 1 T rs r8.2.2 l).bind fun r11 => some (!r11.1, r11.2)).bind fun m13 =>
    if m13.1 = true then some (bad 13) else K m13.2) = if err T rs l ≠ 0 then some (bad (err T rs l)) else K m) := by
 have h3' : decide ((l.length : Int) > 24) = decide (l.length > 24) := by rw [decide_eq_decide]; omega
 rw [F26_eq hrs, F64_eq hl, h3']
 simp only [Option.bind_some]
 unfold err chk2
 by_cases h : chk T rs = 0
 · obtain ⟨t1, t2, t3, hv⟩ := chk_ok h
   simp only [h, bne_self_eq_false, Bool.false_eq_true, if_false, ne_eq, not_true_eq_false]
   by_cases h3 : l.length > 24
   · refine ⟨[], ?_⟩
     rw [if_pos (by simpa using h3), if_pos h3]; rfl
   rw [if_neg (by simpa using h3), if_neg h3]
   cases hi : inC T l
   · exact ⟨[], rfl⟩
   have ho := inC_iff.1 hi
   obtain ⟨c, m, f, _⟩ := F75_eq hv (by omega) t2 (by omega) []
   rw [f]
   simp only [Bool.not_true, Bool.false_eq_true, if_false, Option.bind_some]
   cases hw : wr rs
   · obtain ⟨m2, f2⟩ := F57_eq (T0 := m) hv t2 (by omega) (by omega) ho
     simp only [Bool.false_eq_true, if_false]
     rw [f2]
     simp only [Option.bind_some]
     refine ⟨m2, ?_⟩
     cases ha : ag rs l <;> simp
   refine ⟨[], ?_⟩
   simp
 refine ⟨[], ?_⟩
 rw [if_pos (by simpa using h)]
 simp [h]
theorem F20_eq (hrs : rs.length ≤ 1000) (hl : l.length ≤ 1000) : F20 T rs l = some (if err T rs l = 0 then cert rs l T.toNat 0 else [], err T rs l) := by
 obtain ⟨m, h⟩ := ask_eq (T := T) hrs hl (fun e => (([] : List Int), e)) (fun m => (F20l0 T rs l [] 0 m).bind fun r64 => some (r64, 0))
 refine Eq.trans (Eq.trans ?_ h) ?_
 · rfl
 by_cases e : err T rs l = 0
 · rw [if_neg (by simpa using e), if_pos e, e]
   have e2 : chk2 T rs l = 0 := by
    refine Classical.byContradiction fun g => ?_
    unfold err at e
    rw [if_pos g] at e
    exact g e
   obtain ⟨a, b, c, d, f, g⟩ := chk2_ok e2
   rw [cert_loop d (by omega) b (by omega) (by omega) g T.toNat 0 m [] (Int.le_refl _) (by omega) (by simp)]
   rfl
 rw [if_pos e, if_neg e]
end
end Go.Proofs.Ytiaippkjgmccoaa.plain
