/- What agrees, wrong and Check answer. -/
import Derived.Test.YtiaippkjgmccoaaLK1
set_option linter.unusedVariables false
namespace Go.Proofs.Ytiaippkjgmccoaa.plain
open Go Go.Cl
theorem okC_ctr {T : Int} {c : Case} : okC T (ctr c) ↔ okC T c := Iff.rfl
section
variable {T : Int} {rs : Rules} {l : List Case}
theorem F68_eq (m : Map) (c : Case) : F68 T rs m c.1 c.2 = some (Option.isSome (mget m c)) := rfl
theorem isSome_met {m : Map} {c : Case} : Option.isSome (mget m c) = true ↔ met m c := by
 unfold met; cases mget m c <;> simp
theorem from_one {x y : Case} : From rs [x] y ↔ Reach rs x y := by
 unfold From
 simp
open Classical in
noncomputable def inC (T : Int) (l : List Case) : Bool := decide (∀ c ∈ l, okC T c)
theorem inC_iff : inC T l = true ↔ ∀ c ∈ l, okC T c := by unfold inC; simp
theorem F81_eq (c : Case) : (F81 c.1 c.2 T rs = some true ∧ ¬ okC T c) ∨ (F81 c.1 c.2 T rs = some false ∧ okC T c) := by
 unfold F81 okC
 by_cases h : c.1 < 0
 · left; rw [if_pos (by simpa using h)]; exact ⟨rfl, by omega⟩
 rw [if_neg (by simpa using h)]
 by_cases g : c.1 ≥ T
 · left; exact ⟨by simp [g], by omega⟩
 right; exact ⟨by simp; omega, by omega⟩
theorem has_loop (hl : l.length ≤ 1000) : ∀ (d v : Nat), v + d = l.length → (∃ n : Int, F87l0 l T rs v = some (.inl n) ∧ 0 ≤ n ∧ ∃ c ∈ l.drop v, ¬ okC T c) ∨ (F87l0 l T rs v = some (.inr ()) ∧ ∀ c ∈ l.drop v, okC T c) := by
 intro d
 induction d with
 | zero =>
  intro v hd
  right
  exact ⟨by rw [F87l0, if_neg (by simp; omega)], fun c hc => by rw [List.drop_eq_nil_of_le (by omega)] at hc; cases hc⟩
 | succ d ih =>
  intro v hd
  have hlt : v < l.length := by omega
  have hget : l.getD v (0, false) = l[v] := by rw [List.getD_eq_getElem?_getD, List.getElem?_eq_getElem hlt]; rfl
  have w1 : w64 ((v : Int) + 1) = ((v + 1 : Nat) : Int) := by rw [w64_in (by omega) (by omega)]; omega
  have hdr : l.drop v = l[v] :: l.drop (v + 1) := List.drop_eq_getElem_cons hlt
  rw [F87l0, if_pos (by simp; omega), if_pos ⟨by omega, by omega⟩, w1]
  simp only [Option.bind_eq_bind, Option.bind_some, show ((v : Int)).toNat = v from rfl, hget]
  rcases F81_eq (T := T) (rs := rs) l[v] with ⟨a, b⟩ | ⟨a, b⟩
  · rw [a]
    simp only [Option.bind_some, if_true]
    exact .inl ⟨v, rfl, by omega, l[v], by rw [hdr]; exact List.mem_cons_self, b⟩
  rw [a]
  simp only [Option.bind_some, Bool.false_eq_true, if_false]
  rcases ih (v + 1) (by omega) with ⟨n, f, g, c, hc, hk⟩ | ⟨f, g⟩
  · exact .inl ⟨n, f, g, c, by rw [hdr]; exact List.mem_cons_of_mem _ hc, hk⟩
  refine .inr ⟨f, fun c hc => ?_⟩
  rw [hdr] at hc
  rcases List.mem_cons.1 hc with e | hc
  · rw [e]; exact b
  exact g c hc
theorem F64_eq (hl : l.length ≤ 1000) : F64 T rs l = some (inC T l) := by
 unfold F64 F80 F87
 rcases has_loop (T := T) (rs := rs) hl l.length 0 (by omega) with ⟨n, f, g, c, hc, hk⟩ | ⟨f, g⟩
 · have : inC T l = false := by
    cases h : inC T l
    · rfl
    exact absurd (inC_iff.1 h c (by simpa using hc)) hk
   rw [show (0 : Int) = ((0 : Nat) : Int) from rfl, f, this]
   simp only [Option.bind_eq_bind, Option.bind_some]
   rw [decide_eq_true (by omega)]
   rfl
 have : inC T l = true := inC_iff.2 (by simpa using g)
 rw [show (0 : Int) = ((0 : Nat) : Int) from rfl, f, this]
 rfl
open Classical in
noncomputable def chk (T : Int) (rs : Rules) : Int := if T < 1 ∨ T > 24 then 1 else if rs.length > 80 then 3 else if okR T rs then 0 else 6
theorem chk_ok (h : chk T rs = 0) : 1 ≤ T ∧ T ≤ 24 ∧ rs.length ≤ 80 ∧ okR T rs := by
 unfold chk at h
 split at h
 · exact absurd h (by decide)
 split at h
 · exact absurd h (by decide)
 split at h
 · rename_i a b c; exact ⟨by omega, by omega, by omega, c⟩
 exact absurd h (by decide)
theorem okR_take {v : Nat} (hlt : v < rs.length) : okR T (rs.drop v) ↔ (okC T rs[v].1 ∧ okC T rs[v].2) ∧ okR T (rs.drop (v + 1)) := by
 unfold okR
 rw [List.drop_eq_getElem_cons hlt]
 exact List.forall_mem_cons
theorem check_loop (hrs : rs.length ≤ 1000) : ∀ (d v : Nat), v + d = rs.length → (F26l0 T rs v = some (.inr ()) ∧ okR T (rs.drop v)) ∨ (F26l0 T rs v = some (.inl ()) ∧ ¬ okR T (rs.drop v)) := by
 intro d
 induction d with
 | zero =>
  intro v hd
  left
  exact ⟨by rw [F26l0, if_neg (by simp; omega)], fun c hc => by rw [List.drop_eq_nil_of_le (by omega)] at hc; cases hc⟩
 | succ d ih =>
  intro v hd
  have hlt : v < rs.length := by omega
  have hget : rs.getD v ((0, false), (0, false)) = rs[v] := by rw [List.getD_eq_getElem?_getD, List.getElem?_eq_getElem hlt]; rfl
  have w1 : w64 ((v : Int) + 1) = ((v + 1 : Nat) : Int) := by rw [w64_in (by omega) (by omega)]; omega
  rw [F26l0, if_pos (by simp; omega), if_pos ⟨by omega, by omega⟩, w1]
  simp only [Option.bind_eq_bind, Option.bind_some, show ((v : Int)).toNat = v from rfl, hget, okR_take hlt]
  rw [F64_eq (by simp)]
  simp only [Option.bind_some]
  by_cases h : okC T rs[v].1 ∧ okC T rs[v].2
  · have : inC T [(rs[v].1.1, rs[v].1.2), (rs[v].2.1, rs[v].2.2)] = true := inC_iff.2 (by simp; exact h)
    rw [this, if_neg (by decide)]
    rcases ih (v + 1) (by omega) with ⟨a, b⟩ | ⟨a, b⟩
    · exact .inl ⟨a, h, b⟩
    exact .inr ⟨a, fun g => b g.2⟩
  have : inC T [(rs[v].1.1, rs[v].1.2), (rs[v].2.1, rs[v].2.2)] = false := by
   cases e : inC T [(rs[v].1.1, rs[v].1.2), (rs[v].2.1, rs[v].2.2)]
   · rfl
   have := inC_iff.1 e; simp at this; exact absurd this h
  rw [this, if_pos (by decide)]
  exact .inr ⟨rfl, fun g => h g.1⟩
theorem F26_eq (hrs : rs.length ≤ 1000) : F26 T rs = some (chk T rs) := by
 have h3' : decide ((rs.length : Int) > 80) = decide (rs.length > 80) := by rw [decide_eq_decide]; omega
 unfold F26
 rw [h3']
 by_cases h1 : T < 1
 · rw [decide_eq_true h1]
   unfold chk
   rw [if_pos (c := T < 1 ∨ T > 24) (.inl h1)]; rfl
 rw [decide_eq_false h1]
 by_cases h2 : T > 24
 · rw [decide_eq_true h2]
   unfold chk
   rw [if_pos (c := T < 1 ∨ T > 24) (.inr h2)]; rfl
 rw [decide_eq_false h2]
 unfold chk
 rw [if_neg (c := T < 1 ∨ T > 24) (by omega)]
 simp only [Option.bind_eq_bind, Option.bind_some, Bool.false_eq_true, if_false]
 by_cases h3 : rs.length > 80
 · rw [decide_eq_true h3, if_pos h3]; rfl
 rw [decide_eq_false h3, if_neg h3]
 have := check_loop (T := T) hrs rs.length 0 (by omega)
 rw [List.drop_zero] at this
 rw [show (0 : Int) = ((0 : Nat) : Int) from rfl]
 rcases this with ⟨a, b⟩ | ⟨a, b⟩
 · rw [a, if_pos b]; rfl
 rw [a, if_neg b]; rfl
end
end Go.Proofs.Ytiaippkjgmccoaa.plain
