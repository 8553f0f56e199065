/- Checks, whether a record fits, on both sides. -/
import Derived.Test.YtdekbjfjbbdjgaaLW8
set_option linter.unusedVariables false
namespace Go.Proofs.Ytdekbjfjbbdjgaa.plain
open Go Go.Cl
section
variable {S M i : Int} {rd : List (Int × Int)}
theorem F51_eq (a b c : Int) : F51 a b c = some (decide (a ≤ b ∧ b ≤ c)) := by
 unfold F51
 by_cases h : a ≤ b <;> simp [h]
def Asc (rd : List (Int × Int)) : Prop := ∀ j : Nat, ∀ y, rd[j]? = some y → j = 0 ∨ (rd.getD (j - 1) (0, 0)).1 < y.1
theorem edge_in (h : Rec0 S M rd) {y : Int × Int} (hy : y ∈ rd) : 0 ≤ Int.tmod y.1 S ∧ Int.tmod y.1 S < S ∧ 0 ≤ Int.tmod y.1 M ∧ Int.tmod y.1 M < M := by
 have a := tmod_in (h.hour y hy).1 h.s.1
 have b := tmod_in (h.hour y hy).1 h.m.1
 exact ⟨a.1, a.2, b.1, b.2⟩
def goodR (S M : Int) (w : Int → Int) (y : Int × Int) : Prop := w (Int.tmod y.1 S) + w (S + Int.tmod y.1 M) = y.2
instance (S M : Int) (w : Int → Int) (y : Int × Int) : Decidable (goodR S M w y) := inferInstanceAs (Decidable (_ = _))
theorem good_rd {w : Int → Int} : Good (edges S M rd) w ↔ ∀ y ∈ rd, goodR S M w y := by
 unfold Good edges goodR
 simp only [List.mem_map, forall_exists_index, and_imp, forall_apply_eq_imp_iff₂]
theorem place_a (hour S : Int) (out : Out) (h : 0 ≤ hour) (hS : 1 ≤ S) : Option.getD (mget out (0, Int.tmod hour S)) ((0, 0), 0, 0, (0, 0)) = pl S out (Int.tmod hour S) := by
 unfold pl nd
 rw [if_pos (tmod_in h hS).2]
theorem place_b (hour S M : Int) (out : Out) (h : 0 ≤ hour) (hM : 1 ≤ M) : Option.getD (mget out (1, Int.tmod hour M)) ((0, 0), 0, 0, (0, 0)) = pl S out (S + Int.tmod hour M) := by
 have := tmod_in h hM
 unfold pl nd
 rw [if_neg (by omega), show S + Int.tmod hour M - S = Int.tmod hour M by omega]
section
variable {out : Out} (h : Rec0 S M rd) (hb : ∀ i, 0 ≤ i → i < S + M → -60000000 ≤ waveOf S out i ∧ waveOf S out i ≤ 60000000)
include h hb
theorem F64_eq {y : Int × Int} (hy : y ∈ rd) : F64 y.1 y.2 S M rd out = some (decide (¬ goodR S M (waveOf S out) y)) := by
 have hs := h.s
 have hm := h.m
 have e := edge_in h hy
 unfold F64 F55
 rw [if_neg (by omega), if_neg (by omega)]
 simp only [Option.bind_eq_bind, Option.bind_some]
 rw [place_a _ _ _ (h.hour y hy).1 hs.1, place_b _ S _ _ (h.hour y hy).1 hm.1]
 have b1 := hb (Int.tmod y.1 S) (by omega) (by omega)
 have b2 := hb (S + Int.tmod y.1 M) (by omega) (by omega)
 unfold waveOf at b1 b2
 rw [w64_in (by omega) (by omega)]
 unfold goodR waveOf
 simp only [bne, decide_not]
 rfl
theorem wrong_loop : ∀ (d : Nat) (v : Int), 0 ≤ v → v + d = rd.length →
 ∃ r, F63l0 rd S M rd out v = some r ∧ ((r = .inr () ∧ ∀ j : Nat, v ≤ j → ∀ y, rd[j]? = some y → goodR S M (waveOf S out) y) ∨ ∃ k, r = .inl k ∧ v ≤ k ∧ k < rd.length ∧ ∀ y, rd[k.toNat]? = some y → ¬ goodR S M (waveOf S out) y) := by
 have hl := h.len
 intro d
 induction d with
 | zero =>
  intro v h0 hd
  refine ⟨.inr (), by rw [F63l0, if_neg (by simp; omega)], .inl ⟨rfl, fun j hj y hy => ?_⟩⟩
  have := (List.getElem?_eq_some_iff.1 hy).1
  omega
 | succ d ih =>
  intro v h0 hd
  obtain ⟨y, hy⟩ : ∃ y, rd[v.toNat]? = some y := ⟨_, List.getElem?_eq_getElem (by omega)⟩
  have hyd : rd.getD v.toNat (0, 0) = y := by simp [List.getD, hy]
  have hym : y ∈ rd := List.mem_of_getElem? hy
  rw [F63l0, if_pos (by simp; omega), if_pos ⟨h0, by omega⟩]
  simp only [Option.bind_eq_bind, Option.bind_some]
  rw [hyd, F64_eq h hb hym, w64_in (by omega) (by omega)]
  simp only [Option.bind_some]
  by_cases c : goodR S M (waveOf S out) y
  · rw [if_neg (by simpa using c)]
    obtain ⟨r, a, b⟩ := ih (v + 1) (by omega) (by omega)
    refine ⟨r, a, ?_⟩
    rcases b with ⟨b, b'⟩ | ⟨k, b, k1, k2, k3⟩
    · refine .inl ⟨b, fun j hj z hz => ?_⟩
      by_cases ej : (j : Int) = v
      · have : j = v.toNat := by omega
        rw [this, hy] at hz
        cases hz
        exact c
      exact b' j (by omega) z hz
    exact .inr ⟨k, b, by omega, k2, k3⟩
  rw [if_pos (by simpa using c)]
  exact ⟨_, rfl, .inr ⟨v, rfl, Int.le_refl _, by omega, fun z hz => by rw [hy] at hz; cases hz; exact c⟩⟩
theorem wrongOk : ∃ k, F54 S M rd out = some k ∧ ((k = -1 ∧ Good (edges S M rd) (waveOf S out)) ∨ (0 ≤ k ∧ k < rd.length ∧ ¬ Good (edges S M rd) (waveOf S out) ∧ ∀ y, rd[k.toNat]? = some y → ¬ goodR S M (waveOf S out) y)) := by
 obtain ⟨r, a, b⟩ := wrong_loop h hb rd.length 0 (Int.le_refl _) (by omega)
 unfold F54 F63
 simp only [a, Option.bind_eq_bind, Option.bind_some]
 rcases b with ⟨b, b'⟩ | ⟨k, b, k1, k2, k3⟩
 · rw [b]
   refine ⟨-1, rfl, .inl ⟨rfl, good_rd.2 fun y hy => ?_⟩⟩
   obtain ⟨j, hj⟩ := List.mem_iff_getElem?.1 hy
   exact b' j (by omega) y hj
 rw [b]
 refine ⟨k, rfl, .inr ⟨k1, k2, fun g => ?_, k3⟩⟩
 have hk : rd[k.toNat]? = some (rd[k.toNat]'(by omega)) := List.getElem?_eq_getElem (by omega)
 exact k3 _ hk (good_rd.1 g _ (List.mem_of_getElem? hk))
end
structure Both (S M : Int) (rd : List (Int × Int)) (out : Out) (P W : List Int) : Prop where
 h : Rec0 S M rd
 asc : Asc rd
 co : F23 S M rd = some 0
 fo : F49 S M rd = some out
 so : Sol (S + M) S (edges S M rd) (partOf S out) (waveOf S out)
 sr : Sol (S + M) S (edges S M rd) (at0 P) (at0 W)
 bo : ∀ i, 0 ≤ i → i < S + M → -60000000 ≤ waveOf S out i ∧ waveOf S out i ≤ 60000000
 br : ∀ i, 0 ≤ i → i < S + M → -60000000 ≤ at0 W i ∧ at0 W i ≤ 60000000
 lp : (P.length : Int) = S + M
 lw : (W.length : Int) = S + M
 val : ∀ i, 0 ≤ i → i < S + M → ∃ q, mget out (nd S i) = some q ∧ VN S M q.1
 knd : (keys out).Nodup
 ks : ∀ x, mget out x ≠ none → VN S M x
theorem Both.fits {out : Out} {P W : List Int} (B : Both S M rd out P W) : ∃ k, F54 S M rd out = some k ∧
 ((k = -1 ∧ Good (edges S M rd) (waveOf S out) ∧ Good (edges S M rd) (at0 W) ∧ True ∧ F21 S M rd = some 0) ∨
  (0 ≤ k ∧ k < rd.length ∧ ¬ Good (edges S M rd) (waveOf S out) ∧ ¬ Good (edges S M rd) (at0 W) ∧ True ∧ F21 S M rd = some 13 ∧ ∀ y, rd[k.toNat]? = some y → ¬ goodR S M (waveOf S out) y)) := by
 obtain ⟨k, a, b⟩ := wrongOk B.h B.bo
 have g := B.so.good_iff B.sr (edges_ends B.h)
 refine ⟨k, a, ?_⟩
 unfold F21
 rw [B.co]
 simp only [Option.bind_eq_bind, Option.bind_some, bne_self_eq_false, Bool.false_eq_true, if_false]
 rw [B.fo]
 simp only [Option.bind_some]
 rw [a]
 simp only [Option.bind_some]
 rcases b with ⟨b1, b2⟩ | ⟨b1, b2, b3, b4⟩
 · exact .inl ⟨b1, b2, g.1 b2, trivial, by rw [if_neg (by simp; omega)]⟩
 exact .inr ⟨b1, b2, b3, fun h => b3 (g.2 h), trivial, by rw [if_pos (by simp; omega)], b4⟩
theorem list_at {n : Int} {p : Int → Int} {x : Int} (h0 : 0 ≤ x) (hn : x < n) : at0 ((List.range n.toNat).map fun i : Nat => p i) x = p x := by
 unfold at0
 rw [List.getD_eq_getElem?_getD, List.getElem?_map, List.getElem?_range (by omega)]
 show p (x.toNat : Int) = p x
 rw [Int.toNat_of_nonneg h0]
theorem Sol.list {n S : Int} {E : Edges} {p w : Int → Int} (so : Sol n S E p w) (he : Ends n S E) (hS : 0 ≤ S) : Sol n S E (at0 ((List.range n.toNat).map fun i : Nat => p i)) (at0 ((List.range n.toNat).map fun i : Nat => w i)) := by
 have pp : ∀ x, 0 ≤ x → x < n → at0 ((List.range n.toNat).map fun i : Nat => p i) x = p x := fun x a b => list_at a b
 have ww : ∀ x, 0 ≤ x → x < n → at0 ((List.range n.toNat).map fun i : Nat => w i) x = w x := fun x a b => list_at a b
 refine ⟨fun e h => ?_, fun x a b => ?_, fun x a b => ?_, fun x a b => ?_, fun u hu x a b => ?_, fun c hc x a b => ?_⟩
 · obtain ⟨h1, h2, h3, h4⟩ := he e h
   rw [pp _ h1 (by omega), pp _ (by omega) h4]
   exact so.edge e h
 · rw [pp x a b]; exact so.dom x a b
 · have d := so.dom x a b
   rw [pp x a b, pp _ d.1 (by omega)]; exact so.idem x a b
 · have d := so.dom x a b
   rw [pp x a b, ww _ d.1 (by omega)]; exact so.zero x a b
 · rw [pp x a b, ww x a b]; exact so.det u hu x a b
 rw [pp x a b]; exact so.conn c hc x a b
theorem both_from (h : Rec0 S M rd) (asc : Asc rd) (co : F23 S M rd = some 0) : ∃ out P W, Both S M rd out P W := by
 obtain ⟨out, fo, so, bo, val, knd, ks⟩ := solveSol h
 have hs := h.s
 have hm := h.m
 exact ⟨out, _, _, h, asc, co, fo, so, so.list (edges_ends h) (by omega), bo, fun i a b => by rw [list_at a b]; exact bo i a b, by simp; omega, by simp; omega, val, knd, ks⟩
end
end Go.Proofs.Ytdekbjfjbbdjgaa.plain
