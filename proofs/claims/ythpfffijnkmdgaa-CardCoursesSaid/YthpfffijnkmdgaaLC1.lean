/- Cards: their segments, and how they are checked. -/
import Derived.Test.YthpfffijnkmdgaaLQ
set_option linter.unusedVariables false
set_option linter.unusedSimpArgs false
set_option maxRecDepth 100000
namespace Go.Proofs.Ythpfffijnkmdgaa.plain
open Go Go.Cl
abbrev Pt := Int × Int
abbrev Card := List Pt
theorem w64_up {v : Nat} (h : v ≤ 1000000) : w64 ((v : Int) + 1) = ((v + 1 : Nat) : Int) := by rw [w64_in (by omega) (by omega)]; omega
theorem cons_get {α : Type} {l : List α} {v : Nat} (d : α) (hlt : v < l.length) : l.getD v d = l[v] := by rw [List.getD_eq_getElem?_getD, List.getElem?_eq_getElem hlt]; rfl
def A (c : Card) (i : Nat) : Pt := c.getD i (0, 0)
def B (c : Card) (i : Nat) : Pt := if i + 1 = c.length then ((A c 0).1 + 3600, (A c 0).2) else A c (i + 1)
structure Ok (c : Card) : Prop where
 pos : 0 < c.length
 le : c.length ≤ 36
 rng : ∀ i, i < c.length → 0 ≤ (A c i).1 ∧ (A c i).1 < 3600 ∧ -900 ≤ (A c i).2 ∧ (A c i).2 ≤ 900
 inc : ∀ i, i + 1 < c.length → (A c i).1 < (A c (i + 1)).1
section
variable {c : Card} {i : Nat}
theorem Ok.mono (h : Ok c) : ∀ {k i : Nat}, i + k < c.length → (A c i).1 + k ≤ (A c (i + k)).1 := by
 intro k
 induction k with
 | zero => intro i _; simp
 | succ k ih =>
  intro i hi
  have := ih (i := i) (by omega)
  have := h.inc (i + k) (by omega)
  rw [show i + (k + 1) = i + k + 1 by omega]
  push_cast
  omega
theorem Ok.seg (h : Ok c) (hi : i < c.length) : (A c i).1 < (B c i).1 ∧ (B c i).1 ≤ (A c i).1 + 3600 ∧ (B c i).1 < 7200 ∧ -900 ≤ (B c i).2 ∧ (B c i).2 ≤ 900 := by
 have r := h.rng i hi
 have r0 := h.rng 0 h.pos
 have m := h.mono (k := i) (i := 0) (by omega)
 rw [Nat.zero_add] at m
 unfold B
 by_cases e : i + 1 = c.length
 · rw [if_pos e]
   dsimp only
   omega
 rw [if_neg e]
 have := h.inc i (by omega)
 have := h.rng (i + 1) (by omega)
 omega
theorem mod_next (hi : i < c.length) : (i + 1) % c.length = if i + 1 = c.length then 0 else i + 1 := by
 by_cases e : i + 1 = c.length
 · rw [if_pos e, e, Nat.mod_self]
 rw [if_neg e, Nat.mod_eq_of_lt (by omega)]
theorem seg_code {γ : Type} (hn : c.length ≤ 1000) (hb : (A c 0).1 < 1000000 ∧ -1000000 < (A c 0).1) (hi : i < c.length) (K : Pt → Int → Option γ) :
 (if (c.length : Int) = 0 then none else
  if (0 : Int) ≤ Int.tmod (w64 ((i : Int) + 1)) (c.length : Int) ∧ Int.tmod (w64 ((i : Int) + 1)) (c.length : Int) < (c.length : Int) then
   (some (List.getD c (Int.toNat (Int.tmod (w64 ((i : Int) + 1)) (c.length : Int))) (0, 0))).bind fun o =>
    (if (w64 ((i : Int) + 1) == (c.length : Int)) = true then some (w64 (o.1 + 3600)) else some o.1).bind fun m => K o m
  else none) = K (A c ((i + 1) % c.length)) (B c i).1 := by
 have hm := Nat.mod_lt (i + 1) (show 0 < c.length by omega)
 rw [if_neg (by omega), w64_up (by omega), show Int.tmod ((i + 1 : Nat) : Int) (c.length : Int) = (((i + 1) % c.length : Nat) : Int) from rfl, if_pos ⟨by omega, by omega⟩, Int.toNat_natCast]
 simp only [Option.bind_some]
 rw [show List.getD c ((i + 1) % c.length) (0, 0) = A c ((i + 1) % c.length) from rfl]
 unfold B
 by_cases e : i + 1 = c.length
 · rw [if_pos (by rw [e]; simp), if_pos e, mod_next hi, if_pos e, w64_in (by omega) (by omega)]
   rfl
 rw [if_neg (by simp; omega), if_neg e, mod_next hi, if_neg e]
 rfl
theorem next_snd (hi : i < c.length) : (A c ((i + 1) % c.length)).2 = (B c i).2 := by
 unfold B
 rw [mod_next hi]
 split <;> rfl
def ckl : Int → Card → Int
 | _, [] => 0
 | last, p :: t => if ¬ (0 ≤ p.1 ∧ p.1 < 3600) ∨ p.2 < -900 ∨ p.2 > 900 then 1 else if p.1 = last then 7 else if p.1 < last then 5 else ckl p.1 t
def ck (c : Card) : Int := if c.length = 0 then 2 else if c.length > 36 then 3 else ckl (-1) c
theorem F53_eq (n : Int) : F53 n = some (decide (0 ≤ n ∧ n < 3600)) := by
 unfold F53
 by_cases h : 0 ≤ n
 · rw [decide_eq_true (show n ≥ 0 from h)]
   by_cases g : n < 3600
   · simp [g, h]
   simp [g]
 rw [decide_eq_false (show ¬ n ≥ 0 from h)]
 simp [h]
theorem F90_eq (a l d e : Int) : F90 a l d e = some (if ¬ (0 ≤ a ∧ a < 3600) ∨ d < -900 ∨ d > e ∨ e > 900 then 1 else if a = l then 7 else if a < l then 5 else 0) := by
 unfold F90
 rw [F53_eq]
 simp only [Option.bind_eq_bind, Option.bind_some]
 have key : ∀ b : Bool, (b = true ↔ (¬ (0 ≤ a ∧ a < 3600) ∨ d < -900 ∨ d > e ∨ e > 900)) → ((some b).bind fun m6 => if m6 = true then some (1 : Int) else if (a == l) = true then some 7 else if decide (a < l) = true then some 5 else some 0) = some (if ¬ (0 ≤ a ∧ a < 3600) ∨ d < -900 ∨ d > e ∨ e > 900 then 1 else if a = l then 7 else if a < l then 5 else 0) := by
  intro b hb
  simp only [Option.bind_some]
  by_cases h : ¬ (0 ≤ a ∧ a < 3600) ∨ d < -900 ∨ d > e ∨ e > 900
  · rw [if_pos h, if_pos (hb.2 h)]
  rw [if_neg h, if_neg (fun g => h (hb.1 g))]
  by_cases h5 : a = l
  · rw [if_pos (by simpa using h5), if_pos h5]
  rw [if_neg (by simpa using h5), if_neg h5]
  by_cases h6 : a < l
  · rw [if_pos (by simpa using h6), if_pos h6]
  rw [if_neg (by simpa using h6), if_neg h6]
 by_cases h1 : 0 ≤ a ∧ a < 3600
 · rw [decide_eq_true h1]
   simp only [Bool.not_true, Bool.false_eq_true, if_false]
   by_cases h2 : d < -900
   · rw [decide_eq_true h2]; exact key true (by simp [h2])
   rw [decide_eq_false h2]
   by_cases h3 : d > e
   · rw [decide_eq_true h3]; exact key true (by simp [h3])
   rw [decide_eq_false h3]
   simp only [Bool.false_eq_true, if_false]
   exact key (decide (e > 900)) (by simp [h1, h2, h3])
 rw [decide_eq_false h1]; exact key true (by simp [h1])
def mark (p : Pt) : Int × (Int × Int) := (p.1, (p.2, p.2))
theorem known_loop (hc : c.length ≤ 1000) : ∀ (d v : Nat) (out : List (Int × (Int × Int))), v + d = c.length → out.length ≤ v → F62l0 c out v = some (out ++ (c.drop v).map mark) := by
 intro d
 induction d with
 | zero => intro v out hd ho; rw [F62l0, if_neg (by simp; omega), List.drop_eq_nil_of_le (by omega)]; simp
 | succ d ih =>
  intro v out hd ho
  have hlt : v < c.length := by omega
  have hdr : c.drop v = c[v] :: c.drop (v + 1) := List.drop_eq_getElem_cons hlt
  rw [F62l0, if_pos (by simp; omega), if_pos ⟨by omega, by omega⟩, w64_up (by omega)]
  simp only [Option.bind_eq_bind, Option.bind_some, show ((v : Int)).toNat = v from rfl, cons_get _ hlt]
  rw [if_pos (by omega), ih (v + 1) _ (by omega) (by simp; omega), hdr, List.map_cons, List.append_assoc]
  rfl
def mkl : Int → List (Int × (Int × Int)) → Int
 | _, [] => 0
 | last, p :: t => if ¬ (0 ≤ p.1 ∧ p.1 < 3600) ∨ p.2.1 < -900 ∨ p.2.1 > p.2.2 ∨ p.2.2 > 900 then 1 else if p.1 = last then 7 else if p.1 < last then 5 else mkl p.1 t
theorem check_loop {k : List (Int × (Int × Int))} (hk : k.length ≤ 1000) : ∀ (d v : Nat) (last : Int), v + d = k.length → (∃ e, F63l0 k last v = some (.inl e) ∧ e = mkl last (k.drop v) ∧ e ≠ 0) ∨ (F63l0 k last v = some (.inr ()) ∧ mkl last (k.drop v) = 0) := by
 intro d
 induction d with
 | zero => intro v last hd; right; rw [F63l0, if_neg (by simp; omega), List.drop_eq_nil_of_le (by omega)]; exact ⟨rfl, rfl⟩
 | succ d ih =>
  intro v last hd
  have hlt : v < k.length := by omega
  have hdr : k.drop v = k[v] :: k.drop (v + 1) := List.drop_eq_getElem_cons hlt
  rw [F63l0, if_pos (by simp; omega), if_pos ⟨by omega, by omega⟩, w64_up (by omega)]
  simp only [Option.bind_eq_bind, Option.bind_some, show ((v : Int)).toNat = v from rfl, cons_get _ hlt]
  rw [F90_eq, hdr, mkl]
  simp only [Option.bind_some]
  by_cases h1 : ¬ (0 ≤ k[v].1 ∧ k[v].1 < 3600) ∨ k[v].2.1 < -900 ∨ k[v].2.1 > k[v].2.2 ∨ k[v].2.2 > 900
  · rw [if_pos h1, if_pos h1]; exact .inl ⟨1, rfl, rfl, by decide⟩
  rw [if_neg h1, if_neg h1]
  by_cases h2 : k[v].1 = last
  · rw [if_pos h2, if_pos h2]; exact .inl ⟨7, rfl, rfl, by decide⟩
  rw [if_neg h2, if_neg h2]
  by_cases h3 : k[v].1 < last
  · rw [if_pos h3, if_pos h3]; exact .inl ⟨5, rfl, rfl, by decide⟩
  rw [if_neg h3, if_neg h3]
  exact ih (v + 1) _ (by omega)
def mk (k : List (Int × (Int × Int))) : Int := if k.length = 0 then 2 else if k.length > 36 then 3 else mkl (-1) k
theorem F63_eq {k : List (Int × (Int × Int))} (hk : k.length ≤ 1000) : F63 k = some (mk k) := by
 unfold F63 mk
 by_cases h1 : k.length = 0
 · rw [if_pos (by simp [h1]), if_pos h1]
 rw [if_neg (by simpa using h1), if_neg h1]
 by_cases h2 : k.length > 36
 · rw [if_pos (by simp; omega), if_pos h2]
 rw [if_neg (by simp; omega), if_neg h2]
 have := check_loop hk k.length 0 (-1) (by omega)
 rw [List.drop_zero] at this
 rw [show (0 : Int) = ((0 : Nat) : Int) from rfl]
 rcases this with ⟨e, f, g, _⟩ | ⟨f, g⟩
 · rw [f, ← g]; rfl
 rw [f, g]; rfl
theorem mkl_mark : ∀ (c : Card) (last : Int), mkl last (c.map mark) = ckl last c := by
 intro c
 induction c with
 | nil => intro last; rfl
 | cons p t ih =>
  intro last
  rw [List.map_cons, mkl, ckl]
  unfold mark
  dsimp only
  rw [show t.map (fun p : Pt => (p.1, (p.2, p.2))) = t.map mark from rfl, ih]
  have : (¬ (0 ≤ p.1 ∧ p.1 < 3600) ∨ p.2 < -900 ∨ p.2 > p.2 ∨ p.2 > 900) ↔ (¬ (0 ≤ p.1 ∧ p.1 < 3600) ∨ p.2 < -900 ∨ p.2 > 900) := by omega
  by_cases h : ¬ (0 ≤ p.1 ∧ p.1 < 3600) ∨ p.2 < -900 ∨ p.2 > 900
  · rw [if_pos h, if_pos (this.2 h)]
  rw [if_neg h, if_neg (fun g => h (this.1 g))]
theorem F22_eq (hc : c.length ≤ 1000) : F22 c = some (ck c) := by
 unfold F22 F62
 have f : F62l0 c [] 0 = some ([] ++ (c.drop 0).map mark) := known_loop hc c.length 0 [] (by omega) (Nat.zero_le _)
 rw [f]
 simp only [Option.bind_eq_bind, Option.bind_some, List.nil_append, List.drop_zero]
 rw [F63_eq (by rw [List.length_map]; exact hc)]
 unfold mk ck
 rw [mkl_mark, List.length_map]
 rfl
theorem ckl_ok : ∀ (c : Card) (last : Int), -1 ≤ last → ckl last c = 0 → (∀ i, i < c.length → 0 ≤ (A c i).1 ∧ (A c i).1 < 3600 ∧ -900 ≤ (A c i).2 ∧ (A c i).2 ≤ 900) ∧ (∀ i, i + 1 < c.length → (A c i).1 < (A c (i + 1)).1) ∧ (0 < c.length → last < (A c 0).1) := by
 intro c
 induction c with
 | nil => intro last _ _; exact ⟨fun i h => by simp at h, fun i h => by simp at h, fun h => by simp at h⟩
 | cons p t ih =>
  intro last hl h
  rw [ckl] at h
  split at h
  · cases h
  rename_i h1
  split at h
  · cases h
  rename_i h2
  split at h
  · cases h
  rename_i h3
  obtain ⟨a, b, d⟩ := ih p.1 (by omega) h
  have e0 : A (p :: t) 0 = p := rfl
  have es : ∀ i, A (p :: t) (i + 1) = A t i := fun i => rfl
  refine ⟨fun i hi => ?_, fun i hi => ?_, fun _ => by rw [e0]; omega⟩
  · cases i with
    | zero => rw [e0]; omega
    | succ i => rw [es]; exact a i (by simpa using hi)
  cases i with
  | zero => rw [e0, es]; exact d (by simp at hi; exact hi)
  | succ i => rw [es, es]; exact b i (by simpa using hi)
theorem ck_ok (h : ck c = 0) : Ok c := by
 unfold ck at h
 split at h
 · cases h
 split at h
 · cases h
 obtain ⟨a, b, _⟩ := ckl_ok c (-1) (by decide) h
 exact ⟨by omega, by omega, a, b⟩
theorem ckl_of : ∀ (c : Card) (last : Int), (∀ i, i < c.length → 0 ≤ (A c i).1 ∧ (A c i).1 < 3600 ∧ -900 ≤ (A c i).2 ∧ (A c i).2 ≤ 900) → (∀ i, i + 1 < c.length → (A c i).1 < (A c (i + 1)).1) → (0 < c.length → last < (A c 0).1) → ckl last c = 0 := by
 intro c
 induction c with
 | nil => intro last _ _ _; rfl
 | cons p t ih =>
  intro last a b d
  have e0 : A (p :: t) 0 = p := rfl
  have es : ∀ i, A (p :: t) (i + 1) = A t i := fun i => rfl
  have a0 := a 0 (by simp)
  have d0 := d (by simp)
  rw [e0] at a0 d0
  rw [ckl, if_neg (by omega), if_neg (by omega), if_neg (by omega)]
  refine ih p.1 (fun i hi => ?_) (fun i hi => ?_) (fun h => ?_)
  · have := a (i + 1) (by simpa using hi); rwa [es] at this
  · have := b (i + 1) (by simpa using hi); rwa [es, es] at this
  have := b 0 (by simpa using h); rwa [e0, es] at this
theorem ck_of (h : Ok c) : ck c = 0 := by
 unfold ck
 rw [if_neg (by have := h.pos; omega), if_neg (by have := h.le; omega)]
 exact ckl_of c _ h.rng h.inc (fun g => by have := h.rng 0 g; omega)
end
end Go.Proofs.Ythpfffijnkmdgaa.plain
