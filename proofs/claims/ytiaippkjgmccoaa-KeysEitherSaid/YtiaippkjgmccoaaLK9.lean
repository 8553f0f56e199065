/- For KeysEither: what Proves answers for chains; bits for values; the first truth is the least. -/
import Derived.Test.YtiaippkjgmccoaaLK8
set_option linter.unusedVariables false
set_option maxRecDepth 100000
namespace Go.Proofs.Ytiaippkjgmccoaa.plain
open Go Go.Cl
section
variable {T : Int} {rs : Rules} {l : List Case}
def Closes (a b : List Case) : Bool := decide (at_ a (a.length - 1) = ctr (at_ a 0)) && (decide (at_ b 0 = at_ a (a.length - 1)) && decide (at_ b (b.length - 1) = at_ a 0))
theorem F34_val (hrs : rs.length ≤ 1000) {a b : List Case} (ha : a.length ≤ 1000) (hb : b.length ≤ 1000) (h1 : ver T rs a = 0) (h2 : ver T rs b = 0) : F34 T rs a b = some (if Closes a b then 0 else 12) := by
 obtain ⟨a1, a2⟩ := ver_ok h1
 obtain ⟨b1, b2⟩ := ver_ok h2
 have wa : w64 ((a.length : Int) - 1) = ((a.length - 1 : Nat) : Int) := by rw [w64_in (by omega) (by omega)]; omega
 have wb : w64 ((b.length : Int) - 1) = ((b.length - 1 : Nat) : Int) := by rw [w64_in (by omega) (by omega)]; omega
 have c1 : (0 : Int) ≤ 0 ∧ (0 : Int) < (a.length : Int) := ⟨by omega, by omega⟩
 have c2 : (0 : Int) ≤ ((a.length - 1 : Nat) : Int) ∧ ((a.length - 1 : Nat) : Int) < (a.length : Int) := ⟨by omega, by omega⟩
 have c3 : (0 : Int) ≤ 0 ∧ (0 : Int) < (b.length : Int) := ⟨by omega, by omega⟩
 have c4 : (0 : Int) ≤ ((b.length - 1 : Nat) : Int) ∧ ((b.length - 1 : Nat) : Int) < (b.length : Int) := ⟨by omega, by omega⟩
 unfold F34 Closes
 rw [F30_eq hrs ha, F30_eq hrs hb, h1, h2]
 simp only [Option.bind_eq_bind, Option.bind_some, bne_self_eq_false, Bool.false_eq_true, if_false]
 rw [wa, wb, if_pos c1, if_pos c2, if_pos c3, if_pos c4, F72_eq]
 simp only [Option.bind_some, eq_code]
 rw [show a.getD (Int.toNat 0) (0, false) = at_ a 0 from rfl, show a.getD (Int.toNat ((a.length - 1 : Nat) : Int)) (0, false) = at_ a (a.length - 1) from rfl, show b.getD (Int.toNat 0) (0, false) = at_ b 0 from rfl, show b.getD (Int.toNat ((b.length - 1 : Nat) : Int)) (0, false) = at_ b (b.length - 1) from rfl]
 generalize decide (at_ a (a.length - 1) = ctr (at_ a 0)) = k1
 generalize decide (at_ b 0 = at_ a (a.length - 1)) = k2
 generalize decide (at_ b (b.length - 1) = at_ a 0) = k3
 cases k1 <;> cases k2 <;> cases k3 <;> rfl
theorem F34_bad (hrs : rs.length ≤ 1000) {a b : List Case} (ha : a.length ≤ 1000) (hb : b.length ≤ 1000) (h : ¬ (ver T rs a = 0 ∧ ver T rs b = 0)) : ∃ e, F34 T rs a b = some e ∧ e ≠ 0 := by
 unfold F34
 rw [F30_eq hrs ha, F30_eq hrs hb]
 simp only [Option.bind_eq_bind, Option.bind_some]
 by_cases h1 : ver T rs a = 0
 · have h2 : ver T rs b ≠ 0 := fun g => h ⟨h1, g⟩
   rw [if_neg (by simp [h1]), if_pos (by simpa using h2)]
   exact ⟨_, rfl, h2⟩
 rw [if_pos (by simpa using h1)]
 exact ⟨_, rfl, h1⟩
theorem bits5 : ∀ a b c d e : Bool, let n : Int := ((a.toNat + 2 * b.toNat + 4 * c.toNat + 8 * d.toNat + 16 * e.toNat : Nat) : Int)
 vb n 0 = a ∧ vb n 1 = b ∧ vb n 2 = c ∧ vb n 3 = d ∧ vb n 4 = e := by decide +kernel
theorem bits_for (h0 : 1 ≤ T) (hT : T ≤ 5) (f : Int → Bool) : ∃ n : Nat, n < 2 ^ T.toNat ∧ ∀ t, 0 ≤ t → t < T → vb (n : Int) t = f t := by
 have key : ∀ a b c d e : Bool, (T ≤ 1 → b = false) → (T ≤ 2 → c = false) → (T ≤ 3 → d = false) → (T ≤ 4 → e = false) → a.toNat + 2 * b.toNat + 4 * c.toNat + 8 * d.toNat + 16 * e.toNat < 2 ^ T.toNat := by
  intro a b c d e h1 h2 h3 h4
  have := Bool.toNat_le a; have := Bool.toNat_le b; have := Bool.toNat_le c; have := Bool.toNat_le d; have := Bool.toNat_le e
  rcases (by omega : T = 1 ∨ T = 2 ∨ T = 3 ∨ T = 4 ∨ T = 5) with rfl | rfl | rfl | rfl | rfl
  · rw [h1 (by decide), h2 (by decide), h3 (by decide), h4 (by decide)]; simp; omega
  · rw [h2 (by decide), h3 (by decide), h4 (by decide)]; simp; omega
  · rw [h3 (by decide), h4 (by decide)]; simp; omega
  · rw [h4 (by decide)]; simp; omega
  simp; omega
 let g : Int → Bool := fun t => if t < T then f t else false
 obtain ⟨v0, v1, v2, v3, v4⟩ := bits5 (g 0) (g 1) (g 2) (g 3) (g 4)
 refine ⟨_, key (g 0) (g 1) (g 2) (g 3) (g 4) (fun h => if_neg (by omega)) (fun h => if_neg (by omega)) (fun h => if_neg (by omega)) (fun h => if_neg (by omega)), fun t a b => ?_⟩
 have hg : f t = g t := (if_pos b).symm
 rw [hg]
 rcases (by omega : t = 0 ∨ t = 1 ∨ t = 2 ∨ t = 3 ∨ t = 4) with rfl | rfl | rfl | rfl | rfl
 · exact v0
 · exact v1
 · exact v2
 · exact v3
 exact v4
theorem first_least (hv : okR T rs) (w : Int → Bool) (hs_ : Sat rs w) : ∀ (d : Nat) (t : Int) (now : List Case), (∀ c ∈ now, so w c) → ∀ i : Nat, i < d → (∀ j : Nat, j < i → w (t + j) = (first rs d t now).getD j false) → w (t + i) ≠ (first rs d t now).getD i false → w (t + i) = true := by
 intro d
 induction d with
 | zero => intro t now _ i h; omega
 | succ d ih =>
  intro t now hn i hi hj hd
  rw [first] at hj hd
  cases i with
  | zero =>
   refine Classical.byContradiction fun hf => ?_
   have hf' : w t = false := by
    have := hf
    simp at this
    exact this
   have : Agrees rs (now ++ [((t, false) : Case)]) := hs_.agrees fun x hx => by
    rcases List.mem_append.1 hx with h | h
    · exact hn x h
    rw [List.mem_singleton.1 h]; exact hf'
   rw [List.getD_cons_zero, ag_iff.2 this] at hd
   simp [hf'] at hd
  | succ i =>
   rw [List.getD_cons_succ] at hd
   have h0 := hj 0 (by omega)
   rw [List.getD_cons_zero] at h0
   have e : ∀ k : Nat, t + ((k + 1 : Nat) : Int) = t + 1 + (k : Int) := fun k => by push_cast; omega
   rw [e] at hd ⊢
   refine ih (t + 1) _ (fun x hx => ?_) i (by omega) (fun j hj' => ?_) hd
   · rcases List.mem_append.1 hx with h | h
     · exact hn x h
     rw [List.mem_singleton.1 h]; simpa [so] using h0
   have := hj (j + 1) (by omega)
   rwa [List.getD_cons_succ, e] at this
end
end Go.Proofs.Ytiaippkjgmccoaa.plain
