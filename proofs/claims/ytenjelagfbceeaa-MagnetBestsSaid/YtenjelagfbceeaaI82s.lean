/- Sorting a list of at most twelve choices, as an operation of a region. -/
import Derived.Test.YtenjelagfbceeaaI82n
import Derived.KernelRfl
set_option maxRecDepth 100000
set_option linter.unusedVariables false
namespace Go.Proofs.Ytenjelagfbceeaa
open Go Go.Cl
def sort82 (l : List (Int × Int)) : Option (List (Int × Int)) := if List.length l ≤ 12 then F89 l 0 (List.length l) else none
theorem sort82_len {l r : List (Int × Int)} (h : sort82 l = some r) : List.length r = List.length l := by
  unfold sort82 at h
  split at h
  · exact len89 _ _ _ _ h
  · cases h
def deadBut (k : Nat) : List Blk → Nat → Bool
  | [], _ => true
  | b :: l, i => (Nat.beq i k || (match b with | .dead => true | _ => false)) && deadBut k l (i + 1)
theorem deadBut_spec {k : Nat} : ∀ {h : List Blk} {i j : Nat}, deadBut k h i = true → i + j ≠ k → toF h j = .dead
  | [], i, j, _, _ => by simp [toF, List.getD]
  | b :: l, i, 0, h, hn => by
    simp only [deadBut, Bool.and_eq_true, Bool.or_eq_true] at h
    rcases h.1 with h | h
    · exact absurd (Nat.eq_of_beq_eq_true h) hn
    · cases b with
      | dead => rfl
      | _ => cases h
  | b :: l, i, j + 1, h, hn => by
    simp only [deadBut, Bool.and_eq_true] at h
    have := deadBut_spec (j := j) h.2 (by omega)
    simpa [toF, List.getD] using this
theorem e27_flat (l : List (Int × Int)) : blkFlat (.cells 27 (List.flatMap e27 l)) = true := by
  rcases cellsL_flat (enc := e27) (l := l) (t := 27) (fun _ => rfl) with h | h
  · cases h
  · exact h
theorem TI.sort82 {base L j k : Nat} {ops : Array Oper} {a a2 : CAct} {h h1 h2 : List Blk} {Ψ : CAct → List Blk → Prop} {l r : List (Int × Int)} (hs : sort82 l = some r)
    (hc : callAt ops j a = some (82, [accV k (List.length l), .func (.func 83) ⟨[]⟩ ⟨[]⟩])) (hb : h[k]? = some (accB 27 (List.length l) (List.flatMap e27 l))) (hk : base ≤ k) (hd : deadBut k h 0 = true)
    (hset : h.set k (accB 27 (List.length r) (List.flatMap e27 r)) = h1) (keep keepH : List Nat) (hm : mk2 keep keepH (putAt ops j a (.tuple ⟨[]⟩), h1) = (a2, h2)) (ht : TI Try.prog base L ops (j + 1) a2 h2 Ψ) :
    TI Try.prog base L ops j a h Ψ := by
  have hl := sort82_len hs
  by_cases h0 : List.length l = 0
  · have hr : r = [] := List.eq_nil_of_length_eq_zero (by omega)
    have hl' : l = [] := List.eq_nil_of_length_eq_zero h0
    subst hr; subst hl'
    have hbd : h[k]? = some .dead := hb
    have hsd : h.set k (accB 27 0 []) = h := set_dead hbd
    refine TI.callM (v := .tuple ⟨[]⟩) (new := []) hc (PureSim.ren (hc := []) (fun _ => (0, 0)) C82nil (.nil _) (.cons (.flat rfl) (.cons (Rn.func' .nil .nil) .nil)) (.flat rfl) newflat_nil) keep keepH ?_ ht
    rw [List.append_nil, ← hm, ← hset]
    exact congrArg (fun x => mk2 keep keepH (putAt ops j a (.tuple ⟨[]⟩), x)) hsd.symm
  · have hle : List.length l ≤ 12 := by
      unfold Go.Proofs.Ytenjelagfbceeaa.sort82 at hs; split at hs
      · assumption
      · cases hs
    have hF : F89 l 0 (List.length l) = some r := by
      unfold Go.Proofs.Ytenjelagfbceeaa.sort82 at hs; rw [if_pos hle] at hs; exact hs
    have e1 : accB 27 (List.length l) (List.flatMap e27 l) = .cells 27 (List.flatMap e27 l) := by unfold accB; rw [if_neg h0]
    have e2 : accB 27 (List.length r) (List.flatMap e27 r) = .cells 27 (List.flatMap e27 r) := by unfold accB; rw [if_neg (by omega)]
    rw [e1] at hb
    rw [e2] at hset
    refine TI.icallM hc (ImpSim.ren1 (C82 l _ rfl hle r hF) hb hk (fun i hi _ => deadBut_spec (i := 0) hd (by omega)) (e27_flat l) (e27_flat r)
      (.cons (Rn.accA (i' := k) Nat.one_pos rfl) (.cons (Rn.func' .nil .nil) .nil)) rfl) keep keepH ?_ ht
    rw [hset]; exact hm
end Go.Proofs.Ytenjelagfbceeaa
