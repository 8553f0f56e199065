/- The reference's parts and waves are the record's. -/
import Derived.Test.YtdekbjfjbbdjgaaLW7
set_option linter.unusedVariables false
namespace Go.Proofs.Ytdekbjfjbbdjgaa.plain
open Go Go.Cl
section
variable {S M i : Int} {rd : List (Int × Int)} {n : Int} {E : Edges} {P W : List Int}
structure Done (n S i : Int) (E : Edges) (P W : List Int) : Prop where
 lp : (P.length : Int) = n
 lw : (W.length : Int) = n
 node : ∀ x, 0 ≤ x → x < n → at0 P x < 0 ∨ Node n S E P W x
 low : ∀ x, 0 ≤ x → x < i → 0 ≤ at0 P x
 sep : ∀ e ∈ E, (0 ≤ at0 P e.1 → at0 P e.2.1 = at0 P e.1) ∧ (0 ≤ at0 P e.2.1 → at0 P e.1 = at0 P e.2.1)
 zed : ∀ x, 0 ≤ x → x < n → at0 P x < 0 → at0 W x = 0
theorem sg_sq {x : Int} : sg S x * sg S x = 1 := by unfold sg; split <;> rfl
theorem Done.start (D : Done n S i E P W) (hE : Ends n S E) (hi : 0 ≤ i) (hin : i < n) (hP : at0 P i < 0) : Fill n S i E (P.set i.toNat i) W ∧ 1 ≤ cnt (P.set i.toNat i) := by
 have lp := D.lp
 have sP : ∀ j, 0 ≤ j → at0 (P.set i.toNat i) j = if j = i then i else at0 P j := fun j hj => at0_set hi (by omega) hj
 have hc : cnt (P.set i.toNat i) = cnt P + 1 := cnt_set hi (by omega) hi hP
 have zi := D.zed i hi hin hP
 have si : at0 (P.set i.toNat i) i = i := by rw [sP i hi, if_pos rfl]
 refine ⟨⟨by rw [List.length_set]; exact lp, D.lw, fun x h0 hx => ?_, fun x h0 hx => ?_, si, fun f hf => ?_, fun x h0 hx hn => ?_⟩, by omega⟩
 · by_cases ex : x = i
   · subst ex
     refine .inr ⟨by omega, by omega, by rw [si]; exact si, by rw [si]; exact zi, by rw [zi]; omega, by rw [zi]; omega, fun w hw => ?_, fun c hc => by rw [si]⟩
     rw [si, sg_sq, zi]; omega
   rcases D.node x h0 hx with h | N
   · left; rw [sP x h0, if_neg ex]; exact h
   right
   have e1 := sP x h0
   rw [if_neg ex] at e1
   have hr0 := N.p0
   have hr : at0 P x ≠ i := fun eb => by have := N.idem; rw [eb] at this; omega
   refine ⟨by omega, by rw [e1]; exact N.le, ?_, ?_, by rw [hc]; have := N.lo; omega, by rw [hc]; have := N.hi; omega, fun w hg => by rw [e1]; exact N.det w hg, fun c hg => by rw [e1]; exact N.conn c hg⟩
   · rw [e1, sP _ hr0, if_neg hr]; exact N.idem
   rw [e1]; exact N.zero
 · by_cases ex : x = i
   · rw [ex, si]; exact hi
   rw [sP x h0, if_neg ex]; exact D.low x h0 (by omega)
 · have hf' := hE f hf
   rw [sP f.1 hf'.1, sP f.2.1 (by omega)]
   have k := D.sep f hf
   constructor
   · intro p1 p2
     split at p1
     · rename_i q; rw [if_pos q] at p2; exact absurd rfl p2
     rename_i q
     rw [if_neg q] at p2 ⊢
     have := k.1 p1
     rw [if_neg (fun eb => by rw [eb] at this; omega)]
     exact this
   intro p1 p2
   split at p1
   · rename_i q; rw [if_pos q] at p2; exact absurd rfl p2
   rename_i q
   rw [if_neg q] at p2 ⊢
   have := k.2 p1
   rw [if_neg (fun eb => by rw [eb] at this; omega)]
   exact this
 rw [sP x h0] at hn
 by_cases ex : x = i
 · rw [if_pos ex] at hn; omega
 rw [if_neg ex] at hn; exact D.zed x h0 hx hn
theorem Fill.done (K : Fill n S i E P W) (ht : ∀ e ∈ E, Tied i P e) : Done n S (i + 1) E P W := by
 refine ⟨K.lp, K.lw, K.node, fun x h0 hx => K.low x h0 (by omega), fun e he => ?_, K.zed⟩
 have t := ht e he
 have k := K.sep e he
 constructor
 · intro h
   by_cases e1 : at0 P e.1 = i
   · have a := t.1 e1
     by_cases e2 : at0 P e.2.1 = i
     · omega
     have := k.2 a e2; omega
   exact k.1 h e1
 intro h
 by_cases e1 : at0 P e.2.1 = i
 · have a := t.2 e1
   by_cases e2 : at0 P e.1 = i
   · omega
   have := k.1 a e2; omega
 exact k.2 h e1
theorem l1Done (h : Rec0 S M rd) : ∀ (d : Nat) (v : Int) (P W : List Int), 0 ≤ v → v + d = S + M → Done (S + M) S v (edges S M rd) P W →
 ∃ P' W', F48l1 S M rd v P W = some (P', W') ∧ Done (S + M) S (S + M) (edges S M rd) P' W' := by
 have hs := h.s
 have hm := h.m
 have hw : w64 (S + M) = S + M := w64_in (by omega) (by omega)
 intro d
 induction d with
 | zero =>
  intro v P W h0 hd D
  refine ⟨P, W, ?_, (show v = S + M by omega) ▸ D⟩
  rw [F48l1, hw, if_neg (by simp; omega)]
 | succ d ih =>
  intro v P W h0 hd D
  have lp := D.lp
  rw [F48l1, hw, if_pos (by simp; omega), if_pos ⟨h0, by omega⟩]
  simp only [Option.bind_eq_bind, Option.bind_some]
  rw [show P.getD v.toNat 0 = at0 P v from rfl, w64_in (by omega) (by omega)]
  by_cases c : at0 P v ≥ 0
  · rw [if_pos (by simpa using c)]
    exact ih (v + 1) P W (by omega) (by omega) ⟨D.lp, D.lw, D.node, fun x h0 hx => if e : x = v then e ▸ c else D.low x h0 (by omega), D.sep, D.zed⟩
  rw [if_neg (by simpa using c)]
  obtain ⟨K, hc⟩ := D.start (edges_ends h) h0 (by omega) (by omega)
  obtain ⟨P1, W1, e1, K1, ht⟩ := rounds h h0 (S + M).toNat 0 _ _ (Int.le_refl _) (by omega) K (.inl (by omega))
  rw [e1]
  refine ih (v + 1) P1 W1 (by omega) (by omega) (K1.done fun e he => ?_)
  obtain ⟨y, hy, rfl⟩ := List.mem_map.1 he
  exact ht y hy
theorem l0Done (h : Rec0 S M rd) : ∀ (d : Nat) (v : Int) (V : List Int), 0 ≤ v → v + d = S + M → (V.length : Int) = S + M → (∀ x, 0 ≤ x → x < v → at0 V x = -1) →
 ∃ V', F48l0 S M rd v V = some V' ∧ (V'.length : Int) = S + M ∧ ∀ x, 0 ≤ x → x < S + M → at0 V' x = -1 := by
 have hs := h.s
 have hm := h.m
 have hw : w64 (S + M) = S + M := w64_in (by omega) (by omega)
 intro d
 induction d with
 | zero =>
  intro v V h0 hd hl hv
  refine ⟨V, ?_, hl, fun x a b => hv x a (by omega)⟩
  rw [F48l0, hw, if_neg (by simp; omega)]
 | succ d ih =>
  intro v V h0 hd hl hv
  rw [F48l0, hw, if_pos (by simp; omega), if_pos ⟨h0, by omega⟩, w64_in (by omega) (by omega)]
  refine ih (v + 1) _ (by omega) (by omega) (by rw [List.length_set]; exact hl) fun x a b => ?_
  rw [at0_set h0 (by omega) a]
  split
  · rfl
  exact hv x a (by omega)
theorem at0_replicate {k : Nat} {x : Int} : at0 (List.replicate k (0 : Int)) x = 0 := by
 unfold at0
 simp only [List.getD_eq_getElem?_getD, List.getElem?_replicate]
 split <;> rfl
theorem refSol (h : Rec0 S M rd) : ∃ P W, F48 S M rd = some (P, W) ∧ (P.length : Int) = S + M ∧ (W.length : Int) = S + M ∧ Sol (S + M) S (edges S M rd) (at0 P) (at0 W) ∧
 ∀ i, 0 ≤ i → i < S + M → -60000000 ≤ at0 W i ∧ at0 W i ≤ 60000000 := by
 have hs := h.s
 have hm := h.m
 have hw : w64 (S + M) = S + M := w64_in (by omega) (by omega)
 have hE := edges_ends h
 obtain ⟨V, e0, hl, hv⟩ := l0Done h (S + M).toNat 0 (List.replicate (S + M).toNat 0) (Int.le_refl _) (by omega) (by rw [List.length_replicate]; omega) (fun x a b => by omega)
 obtain ⟨P, W, e1, D⟩ := l1Done h (S + M).toNat 0 V (List.replicate (S + M).toNat 0) (Int.le_refl _) (by omega)
  ⟨hl, by rw [List.length_replicate]; omega, fun x a b => .inl (by rw [hv x a b]; decide), fun x a b => by omega,
   fun e he => by
    obtain ⟨h1, h2, h3, h4⟩ := hE e he
    have a := hv e.1 h1 (by omega)
    have b := hv e.2.1 (by omega) h4
    constructor <;> intro <;> omega,
   fun x a b c => at0_replicate⟩
 have N : ∀ x, 0 ≤ x → x < S + M → Node (S + M) S (edges S M rd) P W x := fun x a b => (D.node x a b).resolve_left (by have := D.low x a b; omega)
 refine ⟨P, W, ?_, D.lp, D.lw, ⟨fun e he => ?_, fun x a b => ⟨(N x a b).p0, (N x a b).le⟩, fun x a b => (N x a b).idem, fun x a b => (N x a b).zero, fun w hw x a b => (N x a b).det w hw, fun c hc x a b => (N x a b).conn c hc⟩, fun x a b => ?_⟩
 · rw [F48, hw, if_pos ⟨by omega, by omega⟩, e0]
   simp only [Option.bind_eq_bind, Option.bind_some]
   rw [e1]; rfl
 · obtain ⟨h1, h2, h3, h4⟩ := hE e he
   exact ((D.sep e he).1 (N e.1 h1 (by omega)).p0).symm
 have c := cnt_le (P := P)
 have := D.lp
 have l := (N x a b).lo
 have u := (N x a b).hi
 omega
end
end Go.Proofs.Ytdekbjfjbbdjgaa.plain
