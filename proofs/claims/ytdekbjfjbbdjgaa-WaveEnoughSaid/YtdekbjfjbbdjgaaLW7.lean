/- The reference's rounds. -/
import Derived.Test.YtdekbjfjbbdjgaaLW6
set_option linter.unusedVariables false
namespace Go.Proofs.Ytdekbjfjbbdjgaa.plain
open Go Go.Cl
section
variable {S M i : Int} {rd : List (Int × Int)}
def edge (S M : Int) (y : Int × Int) : Int × Int × Int := (Int.tmod y.1 S, S + Int.tmod y.1 M, y.2)
theorem edge_mem {y : Int × Int} (hy : y ∈ rd) : edge S M y ∈ edges S M rd := List.mem_map_of_mem (f := fun y : Int × Int => (Int.tmod y.1 S, S + Int.tmod y.1 M, y.2)) hy
theorem edges_val (h : Rec0 S M rd) : ∀ e ∈ edges S M rd, -1000000 ≤ e.2.2 ∧ e.2.2 ≤ 1000000 := fun e he => by
 obtain ⟨y, hy, rfl⟩ := List.mem_map.1 he
 exact h.val y hy
theorem pass (h : Rec0 S M rd) (hi : 0 ≤ i) {v : Int} : ∀ (d : Nat) (k : Int) (P W : List Int), 0 ≤ k → k + d = rd.length → Fill (S + M) S i (edges S M rd) P W →
 ∃ P' W', F48l3 S M rd i v k P W = some (P', W') ∧ Fill (S + M) S i (edges S M rd) P' W' ∧ cnt P ≤ cnt P' ∧
  (cnt P' = cnt P → P' = P ∧ W' = W ∧ ∀ j : Nat, k ≤ j → ∀ y, rd[j]? = some y → Tied i P (edge S M y)) := by
 intro d
 induction d with
 | zero =>
  intro k P W h0 hd K
  refine ⟨P, W, l3_end (by omega), K, Nat.le_refl _, fun _ => ⟨rfl, rfl, fun j hj y hy => ?_⟩⟩
  have := (List.getElem?_eq_some_iff.1 hy).1
  omega
 | succ d ih =>
  intro k P W h0 hd K
  have hs := h.s
  have hm := h.m
  obtain ⟨y, hy⟩ : ∃ y, rd[k.toNat]? = some y := ⟨_, List.getElem?_eq_getElem (by omega)⟩
  have hym : y ∈ rd := List.mem_of_getElem? hy
  rw [l3_step h h0 (by omega) K.lp K.lw hy]
  obtain ⟨K1, hc⟩ := K.relax (edges_ends h) (by omega) (edges_val h) hi (edge_mem (S := S) (M := M) hym)
  obtain ⟨P', W', e, K2, hle, hsame⟩ := ih (k + 1) _ _ (by omega) (by omega) K1
  refine ⟨P', W', e, K2, ?_, fun heq => ?_⟩
  · rcases hc with ⟨hr, _⟩ | hc
    · rw [hr] at hle; exact hle
    omega
  rcases hc with ⟨hr, ht⟩ | hc
  · rw [hr] at hsame
    obtain ⟨a, b, c⟩ := hsame heq
    refine ⟨a, b, fun j hj z hz => ?_⟩
    by_cases ej : (j : Int) = k
    · have : j = k.toNat := by omega
      rw [this, hy] at hz
      cases hz
      exact ht
    exact c j (by omega) z hz
  omega
theorem relax_tied {e : Int × Int × Int} {P W : List Int} (ht : Tied i P e) : relax i e P W = (P, W) := by
 unfold relax
 dsimp only
 have n1 : ¬ (at0 P e.1 = i ∧ at0 P e.2.1 < 0) := fun c => by have := ht.1 c.1; omega
 have n2 : ¬ (at0 P e.2.1 = i ∧ at0 P e.1 < 0) := fun c => by have := ht.2 c.1; omega
 rw [if_neg n1]
 dsimp only
 rw [if_neg n2]
theorem pass_tied (h : Rec0 S M rd) {v : Int} {P W : List Int} (hP : (P.length : Int) = S + M) (hW : (W.length : Int) = S + M) (ht : ∀ y ∈ rd, Tied i P (edge S M y)) : ∀ (d : Nat) (k : Int), 0 ≤ k → k + d = rd.length → F48l3 S M rd i v k P W = some (P, W) := by
 intro d
 induction d with
 | zero => intro k h0 hd; exact l3_end (by omega)
 | succ d ih =>
  intro k h0 hd
  obtain ⟨y, hy⟩ : ∃ y, rd[k.toNat]? = some y := ⟨_, List.getElem?_eq_getElem (by omega)⟩
  have hr : relax i (Int.tmod y.1 S, S + Int.tmod y.1 M, y.2) P W = (P, W) := relax_tied (ht y (List.mem_of_getElem? hy))
  rw [l3_step h h0 (by omega) hP hW hy, hr]
  exact ih (k + 1) (by omega) (by omega)
theorem rounds (h : Rec0 S M rd) (hi : 0 ≤ i) : ∀ (d : Nat) (v : Int) (P W : List Int), 0 ≤ v → v + d = S + M → Fill (S + M) S i (edges S M rd) P W → (S + M + 1 ≤ (cnt P : Int) + d ∨ ∀ y ∈ rd, Tied i P (edge S M y)) →
 ∃ P' W', F48l2 S M rd i v P W = some (P', W') ∧ Fill (S + M) S i (edges S M rd) P' W' ∧ ∀ y ∈ rd, Tied i P' (edge S M y) := by
 have hs := h.s
 have hm := h.m
 have hw : w64 (S + M) = S + M := w64_in (by omega) (by omega)
 intro d
 induction d with
 | zero =>
  intro v P W h0 hd K hc
  refine ⟨P, W, ?_, K, hc.resolve_left fun x => ?_⟩
  · rw [F48l2, hw, if_neg (by simp; omega)]
  have := cnt_le (P := P); have := K.lp; omega
 | succ d ih =>
  intro v P W h0 hd K hc
  obtain ⟨P1, W1, e, K1, hle, hsame⟩ := pass (v := v) h hi rd.length 0 P W (Int.le_refl _) (by omega) K
  rw [F48l2, hw, if_pos (by simp; omega), e]
  simp only [Option.bind_eq_bind, Option.bind_some]
  rw [w64_in (by omega) (by omega)]
  refine ih (v + 1) P1 W1 (by omega) (by omega) K1 ?_
  by_cases heq : cnt P1 = cnt P
  · obtain ⟨a, b, c⟩ := hsame heq
    refine .inr fun y hy => ?_
    obtain ⟨j, hj⟩ := List.mem_iff_getElem?.1 hy
    rw [a]
    exact c j (by omega) y hj
  rcases hc with hc | hc
  · exact .inl (by omega)
  have := pass_tied (v := v) h K.lp K.lw hc rd.length 0 (Int.le_refl _) (by omega)
  rw [e] at this
  cases this
  exact absurd rfl heq
end
end Go.Proofs.Ytdekbjfjbbdjgaa.plain
