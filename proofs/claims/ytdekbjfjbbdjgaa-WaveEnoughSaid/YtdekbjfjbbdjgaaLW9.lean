/- Checks, whether a record fits, on both sides. -/
import Derived.Test.YtdekbjfjbbdjgaaLW8
set_option linter.unusedVariables false
namespace Go.Proofs.Ytdekbjfjbbdjgaa.plain
open Go Go.Cl
section
variable {S M i : Int} {rd : List (Int × Int)}
theorem F51_eq (a b c : Int) : F51 a b c = some (decide (a ≤ b ∧ b ≤ c)) := by
 unfold F51
 by_cases h : a ≤ b <;> simp [h]
theorem F52_eq (a b c : Int) : F52 a b c = some (decide (b ≤ a ∧ a ≤ c)) := by
 unfold F52
 by_cases h : b ≤ a <;> simp [h]
def okR (y : Int × Int) : Prop := (0 ≤ y.1 ∧ y.1 ≤ 100000) ∧ (-1000000 ≤ y.2 ∧ y.2 ≤ 1000000)
theorem chk (hl : rd.length ≤ 60) : ∀ (d : Nat) (v last : Int), 0 ≤ v → v + d = rd.length → (last = if v = 0 then -1 else (rd.getD (v - 1).toNat (0, 0)).1) →
 ∃ r, F23l0 rd last v = some r ∧ F24l0 S M rd v = some r ∧ (r = .inr () → ∀ j : Nat, v ≤ j → ∀ y, rd[j]? = some y → okR y ∧ (j = 0 ∨ (rd.getD (j - 1) (0, 0)).1 < y.1)) := by
 intro d
 induction d with
 | zero =>
  intro v last h0 hd hlast
  refine ⟨.inr (), ?_, ?_, fun _ j hj y hy => ?_⟩
  · rw [F23l0, if_neg (by simp; omega)]
  · rw [F24l0, if_neg (by simp; omega)]
  have := (List.getElem?_eq_some_iff.1 hy).1
  omega
 | succ d ih =>
  intro v last h0 hd hlast
  have hv : v < (rd.length : Int) := by omega
  have hg : (0 : Int) ≤ v ∧ v < (rd.length : Int) := ⟨h0, hv⟩
  rw [F23l0, F24l0]
  simp only [if_pos (show decide (v < (rd.length : Int)) = true by simpa using hv), if_pos hg, Option.bind_eq_bind, Option.bind_some, F51_eq, F52_eq]
  obtain ⟨y, hy⟩ : ∃ y, rd[v.toNat]? = some y := ⟨_, List.getElem?_eq_getElem (by omega)⟩
  have hyd : rd.getD v.toNat (0, 0) = y := by simp [List.getD, hy]
  rw [hyd]
  have w1 : w64 (v + 1) = v + 1 := w64_in (by omega) (by omega)
  by_cases c1 : 0 ≤ y.1 ∧ y.1 ≤ 100000
  · by_cases c2 : -1000000 ≤ y.2 ∧ y.2 ≤ 1000000
    · simp only [c1, c2, and_self, decide_true, if_true, Option.bind_some, Bool.false_eq_true, if_false, w1]
      have go : y.1 > last → ∃ r, F23l0 rd y.1 (v + 1) = some r ∧ F24l0 S M rd (v + 1) = some r ∧ (r = .inr () → ∀ j : Nat, v ≤ j → ∀ y, rd[j]? = some y → okR y ∧ (j = 0 ∨ (rd.getD (j - 1) (0, 0)).1 < y.1)) := by
       intro hgt
       obtain ⟨r, a, b, c⟩ := ih (v + 1) y.1 (by omega) (by omega) (by rw [if_neg (by omega), show (v + 1 - 1).toNat = v.toNat by omega, hyd])
       refine ⟨r, a, b, fun hr j hj z hz => ?_⟩
       by_cases ej : (j : Int) = v
       · have : j = v.toNat := by omega
         rw [this, hy] at hz
         cases hz
         refine ⟨⟨c1, c2⟩, ?_⟩
         by_cases e0 : v = 0
         · left; omega
         right
         rw [if_neg e0] at hlast
         rw [show j - 1 = (v - 1).toNat by omega, ← hlast]
         exact hgt
       exact c hr j (by omega) z hz
      by_cases e0 : v = 0
      · rw [if_pos e0] at hlast
        have hgt : y.1 > last := by omega
        obtain ⟨r, a, b, c⟩ := go hgt
        refine ⟨r, ?_, ?_, c⟩
        · rw [if_neg (by simp; omega)]; exact a
        rw [if_neg (show ¬ decide (v > 0) = true by simp; omega)]
        simp only [Option.bind_some, Bool.false_eq_true, if_false]
        exact b
      rw [if_neg e0] at hlast
      have w2 : w64 (v - 1) = v - 1 := w64_in (by omega) (by omega)
      have hg2 : (0 : Int) ≤ v - 1 ∧ v - 1 < (rd.length : Int) := by omega
      simp only [if_pos (show decide (v > 0) = true by simp; omega), w2, if_pos hg2, Option.bind_some, ← hlast]
      by_cases c3 : y.1 ≤ last
      · refine ⟨.inl 5, ?_, ?_, fun h => by cases h⟩
        · rw [if_pos (by simpa using c3)]
        rw [if_pos (by simpa using c3)]
      obtain ⟨r, a, b, c⟩ := go (by omega)
      refine ⟨r, ?_, ?_, c⟩
      · rw [if_neg (by simpa using c3)]; exact a
      rw [if_neg (by simpa using c3)]; exact b
    simp only [c1, c2, and_self, decide_true, decide_false, if_true, Option.bind_some, Bool.false_eq_true, if_false]
    exact ⟨.inl 1, rfl, rfl, fun h => by cases h⟩
  simp only [c1, decide_false, if_true, Option.bind_some, Bool.false_eq_true, if_false]
  exact ⟨.inl 1, rfl, rfl, fun h => by cases h⟩
def Asc (rd : List (Int × Int)) : Prop := ∀ j : Nat, ∀ y, rd[j]? = some y → j = 0 ∨ (rd.getD (j - 1) (0, 0)).1 < y.1
theorem checkEq (S M : Int) (rd : List (Int × Int)) : ∃ e, F23 S M rd = some e ∧ F24 S M rd = some e ∧ (e = 0 → Rec0 S M rd ∧ Asc rd) := by
 unfold F23 F24
 simp only [F51_eq, F52_eq, Option.bind_eq_bind, Option.bind_some]
 by_cases c1 : 1 ≤ S ∧ S ≤ 30
 · by_cases c2 : 1 ≤ M ∧ M ≤ 30
   · simp only [c1, c2, and_self, decide_true, if_true, Option.bind_some, Bool.false_eq_true, if_false]
     by_cases c3 : (rd.length : Int) > 60
     · simp only [if_pos (show decide ((rd.length : Int) > 60) = true by simpa using c3)]
       exact ⟨3, rfl, rfl, fun h => absurd h (by decide)⟩
     simp only [if_neg (show ¬ decide ((rd.length : Int) > 60) = true by simpa using c3)]
     obtain ⟨r, a, b, c⟩ := chk (S := S) (M := M) (rd := rd) (by omega) rd.length 0 (-1) (Int.le_refl _) (by omega) (by rw [if_pos rfl])
     rw [a, b]
     simp only [Option.bind_some]
     cases r with
     | inl o =>
      refine ⟨o, rfl, rfl, fun h => ?_⟩
      exfalso
      clear c b
      have : ∀ (d : Nat) (v last : Int), v + d = rd.length → F23l0 rd last v = some (.inl 0) → False := by
       intro d
       induction d with
       | zero => intro v last hd h; rw [F23l0, if_neg (by simp; omega)] at h; cases h
       | succ d ih =>
        intro v last hd h
        rw [F23l0] at h
        split at h
        · split at h
          · simp only [F51_eq, Option.bind_eq_bind, Option.bind_some] at h
            generalize rd.getD v.toNat (0, 0) = y at h
            by_cases q1 : 0 ≤ y.1 ∧ y.1 ≤ 100000
            · by_cases q2 : -1000000 ≤ y.2 ∧ y.2 ≤ 1000000
              · simp only [q1, q2, and_self, decide_true, if_true, Option.bind_some, Bool.false_eq_true, if_false] at h
                split at h
                · cases h
                rw [w64_in (by omega) (by omega)] at h
                exact ih (v + 1) y.1 (by omega) h
              simp only [q1, q2, and_self, decide_true, decide_false, if_true, Option.bind_some, Bool.false_eq_true, if_false] at h
              cases h
            simp only [q1, decide_false, if_true, Option.bind_some, Bool.false_eq_true, if_false] at h
            cases h
          cases h
        cases h
      exact this rd.length 0 (-1) (by omega) (h ▸ a)
     | inr u =>
      cases u
      refine ⟨0, rfl, rfl, fun _ => ⟨⟨c1, c2, by omega, fun y hy => ?_, fun y hy => ?_⟩, fun j y hy => (c rfl j (by omega) y hy).2⟩⟩
      · obtain ⟨j, hj⟩ := List.mem_iff_getElem?.1 hy
        exact (c rfl j (by omega) y hj).1.1
      obtain ⟨j, hj⟩ := List.mem_iff_getElem?.1 hy
      exact (c rfl j (by omega) y hj).1.2
   simp only [c1, c2, and_self, decide_true, decide_false, if_true, Option.bind_some, Bool.false_eq_true, if_false]
   exact ⟨1, rfl, rfl, fun h => absurd h (by decide)⟩
 simp only [c1, decide_false, if_true, Option.bind_some, Bool.false_eq_true, if_false]
 exact ⟨1, rfl, rfl, fun h => absurd h (by decide)⟩
theorem edge_in (h : Rec0 S M rd) {y : Int × Int} (hy : y ∈ rd) : 0 ≤ Int.tmod y.1 S ∧ Int.tmod y.1 S < S ∧ 0 ≤ Int.tmod y.1 M ∧ Int.tmod y.1 M < M := by
 have a := tmod_in (h.hour y hy).1 h.s.1
 have b := tmod_in (h.hour y hy).1 h.m.1
 exact ⟨a.1, a.2, b.1, b.2⟩
def goodR (S M : Int) (w : Int → Int) (y : Int × Int) : Prop := w (Int.tmod y.1 S) + w (S + Int.tmod y.1 M) = y.2
instance (S M : Int) (w : Int → Int) (y : Int × Int) : Decidable (goodR S M w y) := inferInstanceAs (Decidable (_ = _))
theorem good_rd {w : Int → Int} : Good (edges S M rd) w ↔ ∀ y ∈ rd, goodR S M w y := by
 unfold Good edges goodR
 simp only [List.mem_map, forall_exists_index, and_imp, forall_apply_eq_imp_iff₂]
theorem place_a (hour S : Int) (out : Out) (h : 0 ≤ hour) (hS : 1 ≤ S) : Option.getD (mget out (0, Int.tmod hour S)) ((0, 0), 0, 0, (0, 0)) = pl S out (Int.tmod hour S) := by
 unfold pl nd
 rw [if_pos (tmod_in h hS).2]
theorem place_b (hour S M : Int) (out : Out) (h : 0 ≤ hour) (hM : 1 ≤ M) : Option.getD (mget out (1, Int.tmod hour M)) ((0, 0), 0, 0, (0, 0)) = pl S out (S + Int.tmod hour M) := by
 have := tmod_in h hM
 unfold pl nd
 rw [if_neg (by omega), show S + Int.tmod hour M - S = Int.tmod hour M by omega]
section
variable {out : Out} (h : Rec0 S M rd) (hb : ∀ i, 0 ≤ i → i < S + M → -60000000 ≤ waveOf S out i ∧ waveOf S out i ≤ 60000000)
include h hb
theorem F64_eq {y : Int × Int} (hy : y ∈ rd) : F64 y.1 y.2 S M rd out = some (decide (¬ goodR S M (waveOf S out) y)) := by
 have hs := h.s
 have hm := h.m
 have e := edge_in h hy
 unfold F64 F55
 rw [if_neg (by omega), if_neg (by omega)]
 simp only [Option.bind_eq_bind, Option.bind_some]
 rw [place_a _ _ _ (h.hour y hy).1 hs.1, place_b _ S _ _ (h.hour y hy).1 hm.1]
 have b1 := hb (Int.tmod y.1 S) (by omega) (by omega)
 have b2 := hb (S + Int.tmod y.1 M) (by omega) (by omega)
 unfold waveOf at b1 b2
 rw [w64_in (by omega) (by omega)]
 unfold goodR waveOf
 simp only [bne, decide_not]
 rfl
theorem wrong_loop : ∀ (d : Nat) (v : Int), 0 ≤ v → v + d = rd.length →
 ∃ r, F63l0 rd S M rd out v = some r ∧ ((r = .inr () ∧ ∀ j : Nat, v ≤ j → ∀ y, rd[j]? = some y → goodR S M (waveOf S out) y) ∨ ∃ k, r = .inl k ∧ v ≤ k ∧ k < rd.length ∧ ∀ y, rd[k.toNat]? = some y → ¬ goodR S M (waveOf S out) y) := by
 have hl := h.len
 intro d
 induction d with
 | zero =>
  intro v h0 hd
  refine ⟨.inr (), by rw [F63l0, if_neg (by simp; omega)], .inl ⟨rfl, fun j hj y hy => ?_⟩⟩
  have := (List.getElem?_eq_some_iff.1 hy).1
  omega
 | succ d ih =>
  intro v h0 hd
  obtain ⟨y, hy⟩ : ∃ y, rd[v.toNat]? = some y := ⟨_, List.getElem?_eq_getElem (by omega)⟩
  have hyd : rd.getD v.toNat (0, 0) = y := by simp [List.getD, hy]
  have hym : y ∈ rd := List.mem_of_getElem? hy
  rw [F63l0, if_pos (by simp; omega), if_pos ⟨h0, by omega⟩]
  simp only [Option.bind_eq_bind, Option.bind_some]
  rw [hyd, F64_eq h hb hym, w64_in (by omega) (by omega)]
  simp only [Option.bind_some]
  by_cases c : goodR S M (waveOf S out) y
  · rw [if_neg (by simpa using c)]
    obtain ⟨r, a, b⟩ := ih (v + 1) (by omega) (by omega)
    refine ⟨r, a, ?_⟩
    rcases b with ⟨b, b'⟩ | ⟨k, b, k1, k2, k3⟩
    · refine .inl ⟨b, fun j hj z hz => ?_⟩
      by_cases ej : (j : Int) = v
      · have : j = v.toNat := by omega
        rw [this, hy] at hz
        cases hz
        exact c
      exact b' j (by omega) z hz
    exact .inr ⟨k, b, by omega, k2, k3⟩
  rw [if_pos (by simpa using c)]
  exact ⟨_, rfl, .inr ⟨v, rfl, Int.le_refl _, by omega, fun z hz => by rw [hy] at hz; cases hz; exact c⟩⟩
theorem wrongOk : ∃ k, F54 S M rd out = some k ∧ ((k = -1 ∧ Good (edges S M rd) (waveOf S out)) ∨ (0 ≤ k ∧ k < rd.length ∧ ¬ Good (edges S M rd) (waveOf S out) ∧ ∀ y, rd[k.toNat]? = some y → ¬ goodR S M (waveOf S out) y)) := by
 obtain ⟨r, a, b⟩ := wrong_loop h hb rd.length 0 (Int.le_refl _) (by omega)
 unfold F54 F63
 simp only [a, Option.bind_eq_bind, Option.bind_some]
 rcases b with ⟨b, b'⟩ | ⟨k, b, k1, k2, k3⟩
 · rw [b]
   refine ⟨-1, rfl, .inl ⟨rfl, good_rd.2 fun y hy => ?_⟩⟩
   obtain ⟨j, hj⟩ := List.mem_iff_getElem?.1 hy
   exact b' j (by omega) y hj
 rw [b]
 refine ⟨k, rfl, .inr ⟨k1, k2, fun g => ?_, k3⟩⟩
 have hk : rd[k.toNat]? = some (rd[k.toNat]'(by omega)) := List.getElem?_eq_getElem (by omega)
 exact k3 _ hk (good_rd.1 g _ (List.mem_of_getElem? hk))
end
section
variable {P W : List Int} (h : Rec0 S M rd) (hw : (W.length : Int) = S + M) (hb : ∀ i, 0 ≤ i → i < S + M → -60000000 ≤ at0 W i ∧ at0 W i ≤ 60000000)
include h hw hb
theorem fits_loop : ∀ (d : Nat) (v : Int), 0 ≤ v → v + d = rd.length →
 ∃ r, F50l0 S M rd (P, W) v = some r ∧ ((r = .inr () ∧ ∀ j : Nat, v ≤ j → ∀ y, rd[j]? = some y → goodR S M (at0 W) y) ∨ (r = .inl () ∧ ∃ y ∈ rd, ¬ goodR S M (at0 W) y)) := by
 have hl := h.len
 have hs := h.s
 have hm := h.m
 intro d
 induction d with
 | zero =>
  intro v h0 hd
  refine ⟨.inr (), by rw [F50l0, if_neg (by simp; omega)], .inl ⟨rfl, fun j hj y hy => ?_⟩⟩
  have := (List.getElem?_eq_some_iff.1 hy).1
  omega
 | succ d ih =>
  intro v h0 hd
  obtain ⟨y, hy⟩ : ∃ y, rd[v.toNat]? = some y := ⟨_, List.getElem?_eq_getElem (by omega)⟩
  have hyd : rd.getD v.toNat (0, 0) = y := by simp [List.getD, hy]
  have hym : y ∈ rd := List.mem_of_getElem? hy
  have e := edge_in h hym
  have b1 := hb (Int.tmod y.1 S) (by omega) (by omega)
  have b2 := hb (S + Int.tmod y.1 M) (by omega) (by omega)
  rw [F50l0, if_pos (by simp; omega), if_pos ⟨h0, by omega⟩]
  simp only [Option.bind_eq_bind, Option.bind_some]
  rw [hyd, if_neg (by omega), if_pos ⟨e.1, by omega⟩, if_neg (by omega), w64_in (x := S + Int.tmod y.1 M) (by omega) (by omega), if_pos ⟨by omega, by omega⟩, w64_in (x := v + 1) (by omega) (by omega)]
  rw [show List.getD W (Int.toNat (Int.tmod y.1 S)) 0 = at0 W (Int.tmod y.1 S) from rfl, show List.getD W (Int.toNat (S + Int.tmod y.1 M)) 0 = at0 W (S + Int.tmod y.1 M) from rfl]
  rw [w64_in (x := at0 W (Int.tmod y.1 S) + at0 W (S + Int.tmod y.1 M)) (by omega) (by omega)]
  by_cases c : goodR S M (at0 W) y
  · rw [if_neg (by unfold goodR at c; simpa using c)]
    obtain ⟨r, a, b⟩ := ih (v + 1) (by omega) (by omega)
    refine ⟨r, a, ?_⟩
    rcases b with ⟨b, b'⟩ | b
    · refine .inl ⟨b, fun j hj z hz => ?_⟩
      by_cases ej : (j : Int) = v
      · have : j = v.toNat := by omega
        rw [this, hy] at hz
        cases hz
        exact c
      exact b' j (by omega) z hz
    exact .inr b
  rw [if_pos (by unfold goodR at c; simpa using c)]
  exact ⟨_, rfl, .inr ⟨rfl, y, hym, c⟩⟩
theorem fitsOk (hF : F48 S M rd = some (P, W)) : (F50 S M rd = some true ∧ Good (edges S M rd) (at0 W)) ∨ (F50 S M rd = some false ∧ ¬ Good (edges S M rd) (at0 W)) := by
 obtain ⟨r, a, b⟩ := fits_loop (P := P) h hw hb rd.length 0 (Int.le_refl _) (by omega)
 unfold F50
 rw [hF]
 simp only [Option.bind_eq_bind, Option.bind_some]
 rw [a]
 simp only [Option.bind_some]
 rcases b with ⟨b, b'⟩ | ⟨b, y, hy, b'⟩
 · rw [b]
   refine .inl ⟨rfl, good_rd.2 fun y hy => ?_⟩
   obtain ⟨j, hj⟩ := List.mem_iff_getElem?.1 hy
   exact b' j (by omega) y hj
 rw [b]
 exact .inr ⟨rfl, fun g => b' (good_rd.1 g y hy)⟩
end
structure Both (S M : Int) (rd : List (Int × Int)) (out : Out) (P W : List Int) : Prop where
 h : Rec0 S M rd
 asc : Asc rd
 co : F23 S M rd = some 0
 cr : F24 S M rd = some 0
 fo : F49 S M rd = some out
 fr : F48 S M rd = some (P, W)
 so : Sol (S + M) S (edges S M rd) (partOf S out) (waveOf S out)
 sr : Sol (S + M) S (edges S M rd) (at0 P) (at0 W)
 bo : ∀ i, 0 ≤ i → i < S + M → -60000000 ≤ waveOf S out i ∧ waveOf S out i ≤ 60000000
 br : ∀ i, 0 ≤ i → i < S + M → -60000000 ≤ at0 W i ∧ at0 W i ≤ 60000000
 lp : (P.length : Int) = S + M
 lw : (W.length : Int) = S + M
 val : ∀ i, 0 ≤ i → i < S + M → ∃ q, mget out (nd S i) = some q ∧ VN S M q.1
 knd : (keys out).Nodup
 ks : ∀ x, mget out x ≠ none → VN S M x
theorem Both.fits {out : Out} {P W : List Int} (B : Both S M rd out P W) : ∃ k, F54 S M rd out = some k ∧
 ((k = -1 ∧ Good (edges S M rd) (waveOf S out) ∧ Good (edges S M rd) (at0 W) ∧ F50 S M rd = some true ∧ F22 S M rd = some 0) ∨
  (0 ≤ k ∧ k < rd.length ∧ ¬ Good (edges S M rd) (waveOf S out) ∧ ¬ Good (edges S M rd) (at0 W) ∧ F50 S M rd = some false ∧ F22 S M rd = some 13 ∧ ∀ y, rd[k.toNat]? = some y → ¬ goodR S M (waveOf S out) y)) := by
 obtain ⟨k, a, b⟩ := wrongOk B.h B.bo
 have g := B.so.good_iff B.sr (edges_ends B.h)
 have f := fitsOk B.h B.lw B.br B.fr
 refine ⟨k, a, ?_⟩
 have f22 : ∀ b, F50 S M rd = some b → F22 S M rd = some (if b then 0 else 13) := fun b hb => by
  unfold F22
  rw [B.cr, hb]
  cases b <;> rfl
 rcases b with ⟨b1, b2⟩ | ⟨b1, b2, b3, b4⟩
 · rcases f with ⟨f1, f2⟩ | ⟨f1, f2⟩
   · exact .inl ⟨b1, b2, f2, f1, f22 _ f1⟩
   exact absurd (g.1 b2) f2
 rcases f with ⟨f1, f2⟩ | ⟨f1, f2⟩
 · exact absurd (g.2 f2) b3
 exact .inr ⟨b1, b2, b3, f2, f1, f22 _ f1, b4⟩
theorem judge (S M : Int) (rd : List (Int × Int)) : ∃ e, F23 S M rd = some e ∧ F24 S M rd = some e ∧ ((e ≠ 0 ∧ F22 S M rd = some e) ∨ (e = 0 ∧ ∃ out P W, Both S M rd out P W)) := by
 obtain ⟨e, a, b, c⟩ := checkEq S M rd
 refine ⟨e, a, b, ?_⟩
 by_cases e0 : e = 0
 · obtain ⟨h, asc⟩ := c e0
   obtain ⟨out, fo, so, bo, val, knd, ks⟩ := solveSol h
   obtain ⟨P, W, fr, lp, lw, sr, br⟩ := refSol h
   exact .inr ⟨e0, out, P, W, h, asc, e0 ▸ a, e0 ▸ b, fo, fr, so, sr, bo, br, lp, lw, val, knd, ks⟩
 refine .inl ⟨e0, ?_⟩
 unfold F22
 rw [b]
 simp [e0]
end
end Go.Proofs.Ytdekbjfjbbdjgaa.plain
