/- What an operation looks at; small matters before the draw. -/
import Derived.Test.YtiaippkjgmccoaaCl22
set_option linter.unusedSimpArgs false
set_option linter.unusedVariables false
namespace Go.Cl
open Go Go.RowKit

theorem map_congr' {α : Type} {ρ ρ' : α → Value} {l : List α} (h : ∀ x ∈ l, ρ x = ρ' x) : l.map ρ = l.map ρ' := List.map_congr_left h

theorem parts_congr {ρ ρ' : Operand → Value} {parts : Array (Nat × Operand)} (h : ∀ x ∈ (parts.toList.map (·.2)), ρ x = ρ' x) : partsOf ρ parts = partsOf ρ' parts := by
  unfold partsOf
  apply List.map_congr_left
  intro p hp
  rw [h p.2 (List.mem_map.2 ⟨p, hp, rfl⟩)]

/-- An operation asks for its operands alone. -/
theorem qOp_congr {E : Env} {r : Rec} {base : Nat} {h : List Blk} {n : Nat} {ρ ρ' : Operand → Value} {o : Oper} (hρ : ∀ x ∈ o.op.operands.toList, ρ x = ρ' x) : qOp E r base h n ρ o = qOp E r base h n ρ' o := by
  cases ho : o.op <;> rw [ho] at hρ <;> (try simp only [Op.operands] at hρ) <;> (try simp only [qOp, ho])
  case move x => rw [hρ x (by simp)]
  case assign x => rw [hρ x (by simp)]
  case pick c a b => rw [hρ c (by simp), hρ a (by simp), hρ b (by simp)]
  case box t x => rw [hρ x (by simp)]
  case build t parts => rw [parts_congr (by simpa using hρ)]
  case buildSlice t len parts => rw [parts_congr (by simpa using hρ)]
  case load t a => rw [hρ a (by simp)]
  case store t a x => rw [hρ a (by simp), hρ x (by simp)]
  case nilCheck x => rw [hρ x (by simp)]
  case binOp op t x y z => rw [hρ x (by simp), hρ y (by simp)]
  case unOp op z x => rw [hρ x (by simp)]
  case convert s d x => rw [hρ x (by simp)]
  case makeFunc fn first captured =>
    cases fn with
    | func g =>
      simp only [qOp, ho]
      rw [map_congr' (l := first.toList) (fun x hx => hρ x (by simp; exact .inl (by simpa using hx))), map_congr' (l := captured.toList) (fun x hx => hρ x (by simp; exact .inr (by simpa using hx)))]
    | _ => simp only [qOp, ho]
  case makeMap t r => cases r <;> simp only [qOp, ho]
  case makeSlice t l c => rw [hρ l (by simp), hρ c (by simp)]
  case slice t x lo hi mx =>
    have e : ∀ y : Option Operand, (∀ z, y = some z → ρ z = ρ' z) → y.map ρ = y.map ρ' := by
      intro y hy
      cases y with
      | none => rfl
      | some z => simp [hy z rfl]
    rw [hρ x (by simp), e lo (fun z hz => hρ z (by simp [hz])), e hi (fun z hz => hρ z (by simp [hz])), e mx (fun z hz => hρ z (by simp [hz]))]
  case fieldAddr s x f => rw [hρ x (by simp)]
  case field t x f => rw [hρ x (by simp)]
  case indexAddr t x ix => rw [hρ x (by simp), hρ ix (by simp)]
  case index t x ix => rw [hρ x (by simp), hρ ix (by simp)]
  case lookup t m k ok => rw [hρ m (by simp), hρ k (by simp)]
  case mapUpdate t m k x => rw [hρ m (by simp), hρ k (by simp), hρ x (by simp)]
  case insert t m k x => rw [hρ m (by simp), hρ k (by simp), hρ x (by simp)]
  case extract t ix => rw [hρ t (by simp)]
  case call c =>
    obtain ⟨callee, cargs, ts⟩ := c
    cases callee with
    | value f =>
      simp only [Call.operands] at hρ
      simp only [qOp, ho]
      rw [hρ f (by simp), map_congr' (l := cargs.toList) (fun x hx => hρ x (by simp; exact .inr (by simpa using hx)))]
    | builtin b =>
      simp only [Call.operands] at hρ
      simp only [qOp, ho]
      rw [map_congr' (l := cargs.toList) (fun x hx => hρ x (by simpa using hx))]
    | invoke => simp only [qOp, ho]

section
variable {P : Program} {w w' : World} {D D' : Nat → Prop} {β β' : Nat → Nat × Nat} {κ κ' : Nat → Nat} {base N n : Nat} {H H' : Nat → Blk}

/-- Less is known, elsewhere something was written. -/
theorem Rel.frame (hR : Rel P D β κ base N H w) (hD : ∀ i, D i → D' i) (hE : Ext D β κ β' κ') (hH : ∀ i, H' i ≠ .dead → H' i = H i ∧ β' i = β i ∧ κ' i = κ i ∧ w'.heap[(β i).1]? = w.heap[(β i).1]?) (hs : w.heap.size ≤ w'.heap.size) :
    Rel P D' β' κ' base N H' w' where
  blk := fun i => by
    by_cases h : H' i = .dead
    · rw [h]; trivial
    · obtain ⟨h1, h2, h3, h4⟩ := hH i h
      rw [h1]; exact (hR.blk i).move hD hE h2 h4
  ro := fun i hi hb => by
    obtain ⟨h1, h2, h3, h4⟩ := hH i hi
    rw [h2]; exact hR.ro i (h1 ▸ hi) hb
  own := fun i hi hb => by
    obtain ⟨h1, h2, h3, h4⟩ := hH i hi
    have := hR.own i (h1 ▸ hi) hb
    rw [h1]
    exact ⟨by rw [h2]; exact this.1, this.2.move ⟨h2, h3⟩ h4⟩
  inj := fun i j hi hj hb hb' he => by
    obtain ⟨h1, h2, _⟩ := hH i hi
    obtain ⟨k1, k2, _⟩ := hH j hj
    rw [h2, k2] at he
    exact hR.inj i j (h1 ▸ hi) (k1 ▸ hj) hb hb' he
  size := Nat.le_trans hR.size hs

end

section
variable {E : Env} {r : Rec} {base : Nat} {ops : Array Oper} {s : Nat} {us : List (Nat × Nat)} {a0 : CAct} {h0 : List Blk} {S : Nat → QSt} {R : Nat → Option QRes}

/-- A set of operations of the first part, with all that stand before them. -/
structure Closed (ops : Array Oper) (s : Nat) (K : Nat → Bool) : Prop where
  lt : ∀ z, K z = true → z < s
  anc : ∀ z i, K z = true → anc ops z i = true → K i = true


/-- A block that lives was made by one of them, if it was made. -/
theorem Run.made (X : Run E r base ops s us a0 h0 S R) {K : Nat → Bool} (hK : Closed ops s K) {i z : Nat} (hz : z < s) (hn : InNew (S z).heap.length (newOf R z).length i) (ha : HK h0 S R K s i ≠ .dead) : K z = true := by
  apply Classical.byContradiction
  intro hKz
  apply ha
  have : ∀ z', 0 ≤ z' → z' < s → K z' = true → ¬ touches S R z' i := by
    intro z' _ hz' hk ht
    rcases ht with ht | ⟨b, ht⟩
    · by_cases he : z' = z
      · subst he; exact hKz hk
      · rcases Nat.lt_or_gt_of_ne he with h | h
        · have := X.new_lt h (by omega); have := ht.2; have := hn.1; omega
        · have := X.new_lt h (by omega); have := hn.2; have := ht.1; omega
    · obtain ⟨hal, hl⟩ := X.upd_alive hz' ht
      by_cases h : z < z'
      · exact hKz (hK.anc z' z hk ((X.sees hz' hal).2.1 z h hn))
      · have := X.len_le (show z' ≤ z by omega) (by omega)
        have := hn.1
        omega
  rw [HK_skip (Nat.zero_le s) this]
  show toF h0 i = _
  have h1 := X.len_le (Nat.zero_le z) (by omega)
  rw [X.s0] at h1
  have h1 : h0.length ≤ (S z).heap.length := h1
  have := hn.1
  unfold toF
  simp only [List.getD]
  rw [List.getElem?_eq_none (by omega)]
  rfl
end
end Go.Cl
