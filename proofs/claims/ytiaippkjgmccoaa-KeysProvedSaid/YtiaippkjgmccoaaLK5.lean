/- Chains: as short as stated, and accepted as stated. -/
import Derived.Test.YtiaippkjgmccoaaLK4
import Derived.Test.YtiaippkjgmccoaaKF
set_option linter.unusedVariables false
namespace Go.Proofs.Ytiaippkjgmccoaa.plain
open Go Go.Cl
def at_ (u : List Case) (i : Nat) : Case := u.getD i (0, false)
section
variable {T : Int} {rs : Rules} {l : List Case} {x : Case} {m : Map} {D : Case → Nat}
def IsWalk (rs : Rules) (a : List Case) : Prop := ∀ i, i + 1 < a.length → Leads rs (at_ a i) (at_ a (i + 1))
theorem F83_loop (hrs : rs.length ≤ 1000) (a b : Case) : ∀ (d v : Nat), v + d = rs.length → (∃ n : Int, F83l0 rs a.1 a.2 b.1 b.2 v = some (.inl n) ∧ 0 ≤ n ∧ (a, b) ∈ rs.drop v) ∨ (F83l0 rs a.1 a.2 b.1 b.2 v = some (.inr ()) ∧ (a, b) ∉ rs.drop v) := by
 intro d
 induction d with
 | zero =>
  intro v hd
  right
  exact ⟨by rw [F83l0, if_neg (by simp; omega)], fun hc => by rw [List.drop_eq_nil_of_le (by omega)] at hc; cases hc⟩
 | succ d ih =>
  intro v hd
  have hlt : v < rs.length := by omega
  have hdr : rs.drop v = rs[v] :: rs.drop (v + 1) := List.drop_eq_getElem_cons hlt
  rw [F83l0, if_pos (by simp; omega), if_pos ⟨by omega, by omega⟩, w64_up (by omega)]
  simp only [Option.bind_eq_bind, Option.bind_some, show ((v : Int)).toNat = v from rfl, cons_get _ hlt, eq_code]
  rw [hdr]
  by_cases h : (a, b) = rs[v]
  · rw [if_pos (by rw [← h]; simp)]
    exact .inl ⟨v, rfl, by omega, by rw [h]; exact List.mem_cons_self⟩
  rw [if_neg (fun g => h (by simp at g; exact Prod.ext g.1 g.2))]
  rcases ih (v + 1) (by omega) with ⟨n, f, g, k⟩ | ⟨f, g⟩
  · exact .inl ⟨n, f, g, List.mem_cons_of_mem _ k⟩
  refine .inr ⟨f, fun k => ?_⟩
  rcases List.mem_cons.1 k with e | k
  · exact h e
  exact g k
theorem F73_eq (hrs : rs.length ≤ 1000) (a b : Case) : F73 rs a.1 a.2 b.1 b.2 = some (decide ((a, b) ∈ rs)) := by
 unfold F73 F83
 have := F83_loop hrs a b rs.length 0 (by omega)
 rw [List.drop_zero] at this
 rw [show (0 : Int) = ((0 : Nat) : Int) from rfl]
 rcases this with ⟨n, f, g, k⟩ | ⟨f, k⟩
 · rw [f, decide_eq_true k]
   simp only [Option.bind_eq_bind, Option.bind_some]
   rw [decide_eq_true (show n ≥ ((0 : Nat) : Int) by omega)]
 rw [f, decide_eq_false k]
 rfl
theorem leads_mem {y z : Case} : Leads rs y z ↔ (ctr y, z) ∈ rs ∨ (z, ctr y) ∈ rs := by
 unfold Leads
 constructor
 · rintro ⟨r, hr, ⟨a, b⟩ | ⟨a, b⟩⟩
   · left; rw [← a, ← b]; exact hr
   right; rw [← a, ← b]; exact hr
 rintro (h | h)
 · exact ⟨_, h, .inl ⟨rfl, rfl⟩⟩
 exact ⟨_, h, .inr ⟨rfl, rfl⟩⟩
open Classical in
noncomputable def ver (T : Int) (rs : Rules) (l : List Case) : Int :=
 if chk T rs ≠ 0 then chk T rs else if l.length = 0 then 2 else if l.length > 100 then 3 else if inC T l = false then 6 else if IsWalk rs l then 0 else 14
theorem walk_loop (hrs : rs.length ≤ 1000) (hl : l.length ≤ 1000) : ∀ (d v : Nat), v + d + 1 = l.length → (F30l0 T rs l v = some (.inr ()) ∧ ∀ i, v ≤ i → i + 1 < l.length → Leads rs (at_ l i) (at_ l (i + 1))) ∨ (F30l0 T rs l v = some (.inl ()) ∧ ¬ IsWalk rs l) := by
 intro d
 induction d with
 | zero =>
  intro v hd
  left
  exact ⟨by rw [F30l0, if_neg (by simp; omega)], fun i h1 h2 => by omega⟩
 | succ d ih =>
  intro v hd
  have e1 : List.getD (List.drop (Int.toNat 1) l) v (0, false) = at_ l (v + 1) := by
   unfold at_
   rw [List.getD_eq_getElem?_getD, List.getD_eq_getElem?_getD, List.getElem?_drop, show Int.toNat 1 + v = v + 1 by simp; omega]
  have c1 : (List.drop (Int.toNat 1) l).length = l.length - 1 := List.length_drop
  rw [F30l0, if_pos (by rw [c1]; simp; omega), if_pos ⟨by omega, by rw [c1]; omega⟩, w64_up (by omega)]
  simp only [Option.bind_eq_bind, Option.bind_some, show ((v : Int)).toNat = v from rfl, e1]
  rw [if_pos ⟨by omega, by omega⟩, show l.getD v (0, false) = at_ l v from rfl, F72_eq (at_ l v)]
  simp only [Option.bind_some]
  rw [F73_eq hrs (ctr (at_ l v)) (at_ l (v + 1)), F73_eq hrs (at_ l (v + 1)) (ctr (at_ l v))]
  simp only [Option.bind_some]
  have next : Leads rs (at_ l v) (at_ l (v + 1)) → (F30l0 T rs l ((v + 1 : Nat) : Int) = some (.inr ()) ∧ ∀ i, v ≤ i → i + 1 < l.length → Leads rs (at_ l i) (at_ l (i + 1))) ∨ (F30l0 T rs l ((v + 1 : Nat) : Int) = some (.inl ()) ∧ ¬ IsWalk rs l) := fun hv => by
   rcases ih (v + 1) (by omega) with ⟨f, g⟩ | ⟨f, g⟩
   · refine .inl ⟨f, fun i h1 h2 => ?_⟩
     by_cases e : i = v
     · rw [e]; exact hv
     exact g i (by omega) h2
   exact .inr ⟨f, g⟩
  by_cases h1 : (ctr (at_ l v), at_ l (v + 1)) ∈ rs
  · rw [decide_eq_true h1]
    exact next (leads_mem.2 (.inl h1))
  rw [decide_eq_false h1]
  by_cases h2 : (at_ l (v + 1), ctr (at_ l v)) ∈ rs
  · rw [decide_eq_true h2]
    exact next (leads_mem.2 (.inr h2))
  rw [decide_eq_false h2]
  refine .inr ⟨rfl, fun hw => ?_⟩
  rcases leads_mem.1 (hw v (by omega)) with h | h
  · exact h1 h
  exact h2 h
theorem F30_eq (hrs : rs.length ≤ 1000) (hl : l.length ≤ 1000) : F30 T rs l = some (ver T rs l) := by
 have h3' : decide ((l.length : Int) > 100) = decide (l.length > 100) := by rw [decide_eq_decide]; omega
 have h4' : ((l.length : Int) == 0) = decide (l.length = 0) := by rw [Bool.eq_iff_iff]; simp
 unfold F30 ver
 rw [F26_eq hrs, F64_eq hl, h3', h4']
 simp only [Option.bind_eq_bind, Option.bind_some]
 by_cases h : chk T rs = 0
 · simp only [h, bne_self_eq_false, Bool.false_eq_true, if_false, ne_eq, not_true_eq_false, decide_eq_true_eq]
   by_cases h0 : l.length = 0
   · rw [if_pos h0, if_pos h0]
   rw [if_neg h0, if_neg h0]
   by_cases h3 : l.length > 100
   · rw [if_pos h3, if_pos h3]
   rw [if_neg h3, if_neg h3]
   cases hi : inC T l
   · rfl
   simp only [Bool.not_true, Bool.false_eq_true, if_false, Bool.true_eq_false]
   rw [if_pos ⟨by omega, by omega⟩, show (0 : Int) = ((0 : Nat) : Int) from rfl]
   rcases walk_loop (T := T) hrs hl (l.length - 1) 0 (by omega) with ⟨f, g⟩ | ⟨f, g⟩
   · rw [f, if_pos (c := IsWalk rs l) (fun i hi => g i (Nat.zero_le _) hi)]; rfl
   rw [f, if_neg g]; rfl
 rw [if_pos (by simpa using h), if_pos h]
end
end Go.Proofs.Ytiaippkjgmccoaa.plain
