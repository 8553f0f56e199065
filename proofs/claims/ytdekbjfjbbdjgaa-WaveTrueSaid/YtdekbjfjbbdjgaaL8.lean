/- The plain law of WaveTrue: a value that follows is that of the waves; where none follows, one part may be moved. -/
import Derived.Test.YtdekbjfjbbdjgaaG8
import Derived.Test.YtdekbjfjbbdjgaaLN
set_option linter.unusedVariables false
namespace Go.Proofs.Ytdekbjfjbbdjgaa.waveTrue
open Go Go.Cl Go.Proofs.Ytdekbjfjbbdjgaa.plain
theorem asc_cons {y : Int × Int} {l : List (Int × Int)} (h : Asc (y :: l)) : Asc l := fun j z hz => by
 rcases h (j + 1) z (by simpa using hz) with e | e
 · omega
 cases j with
 | zero => exact .inl rfl
 | succ j => exact .inr e
theorem asc_pair : ∀ {l : List (Int × Int)}, Asc l → l.Pairwise fun a b => a.1 < b.1
 | [], _ => .nil
 | [y], _ => List.pairwise_singleton _ _
 | y :: a :: l, h => by
  have ih := asc_pair (asc_cons h)
  have h1 : y.1 < a.1 := by
   rcases h 1 a rfl with e | e
   · omega
   exact e
  refine List.pairwise_cons.2 ⟨fun z hz => ?_, ih⟩
  rcases List.mem_cons.1 hz with rfl | hz
  · exact h1
  exact Int.lt_trans h1 ((List.pairwise_cons.1 ih).1 z hz)
theorem pair_asc {l : List (Int × Int)} (h : l.Pairwise fun a b => a.1 < b.1) : Asc l := fun j y hy => by
 by_cases c : j = 0
 · exact .inl c
 right
 obtain ⟨hj, rfl⟩ := List.getElem?_eq_some_iff.1 hy
 rw [List.getD_eq_getElem?_getD, List.getElem?_eq_getElem (by omega : j - 1 < l.length)]
 exact List.pairwise_iff_getElem.1 h (j - 1) j (by omega) hj (by omega)
def ins (q : Int × Int) : List (Int × Int) → List (Int × Int)
 | [] => [q]
 | y :: l => if y.1 > q.1 then q :: y :: l else y :: ins q l
theorem ins_mem {q x : Int × Int} : ∀ {l : List (Int × Int)}, x ∈ ins q l ↔ x = q ∨ x ∈ l
 | [] => by simp [ins]
 | y :: l => by
  rw [ins]
  split
  · exact List.mem_cons
  rw [List.mem_cons, ins_mem, List.mem_cons]
  constructor
  · rintro (a | a | a)
    · exact .inr (.inl a)
    · exact .inl a
    exact .inr (.inr a)
  rintro (a | a | a)
  · exact .inr (.inl a)
  · exact .inl a
  exact .inr (.inr a)
theorem ins_len {q : Int × Int} : ∀ {l : List (Int × Int)}, (ins q l).length = l.length + 1
 | [] => rfl
 | y :: l => by
  rw [ins]
  split
  · rfl
  simp only [List.length_cons, ins_len]
theorem ins_pair {q : Int × Int} : ∀ {l : List (Int × Int)}, (l.Pairwise fun a b => a.1 < b.1) → (∀ y ∈ l, y.1 ≠ q.1) → (ins q l).Pairwise fun a b => a.1 < b.1
 | [], _, _ => List.pairwise_singleton _ _
 | y :: l, h, hn => by
  have h1 := List.pairwise_cons.1 h
  have hy := hn y List.mem_cons_self
  rw [ins]
  split
  · rename_i c
    refine List.pairwise_cons.2 ⟨fun z hz => ?_, h⟩
    rcases List.mem_cons.1 hz with rfl | hz
    · exact c
    exact Int.lt_trans c (h1.1 z hz)
  rename_i c
  refine List.pairwise_cons.2 ⟨fun z hz => ?_, ins_pair h1.2 (fun z hz => hn z (List.mem_cons_of_mem _ hz))⟩
  rcases ins_mem.1 hz with rfl | hz
  · omega
  exact h1.1 z hz
section
variable {S M : Int} {rd : List (Int × Int)} {out : Out} {P W : List Int} {p2 p13 : List Int} {p14 p15 : Int}
theorem value_eq (B : Both S M rd out P W) (g : plain.Good (edges S M rd) (waveOf S out)) {h : Int} (h0 : 0 ≤ h) (h1 : h ≤ 100000) :
 F37 S M rd h = some (if partOf S out (Int.tmod h S) = partOf S out (S + Int.tmod h M) then (waveOf S out (Int.tmod h S) + waveOf S out (S + Int.tmod h M), 0) else (0, 14)) := by
 obtain ⟨k, f, q⟩ := B.fits
 have hk : k = -1 := by
  rcases q with ⟨a, _⟩ | ⟨_, _, a, _⟩
  · exact a
  exact absurd g a
 unfold F37
 rw [B.co]
 simp only [Option.bind_eq_bind, Option.bind_some, bne_self_eq_false, Bool.false_eq_true, if_false]
 rw [B.fo]
 simp only [Option.bind_some]
 rw [f, hk]
 simp only [Option.bind_some]
 rw [if_neg (by decide), F51_eq, decide_eq_true ⟨h0, h1⟩]
 simp only [Option.bind_some, if_true, Bool.false_eq_true, if_false]
 rw [B.F59_eq h0]
 simp only [Option.bind_some]
 by_cases c : partOf S out (Int.tmod h S) = partOf S out (S + Int.tmod h M)
 · rw [if_pos c, if_pos (by simpa using c)]
 rw [if_neg c, if_neg (by simpa using c)]
theorem count_loop {r1 : (Int × Int × (List (Int × Int))) × (List Int) × (List Int)} {r3 r5 : Int × Int} (hn : S + M ≤ 60) {N : List Int} (ln : (N.length : Int) = S + M) (hN : ∀ x, 0 ≤ x → x < S + M → at0 N x = at0 P x) : ∀ (d : Nat) (v z : Int), 0 ≤ v → v + d = S + M → 0 ≤ z → z ≤ v →
 F8l0 p2 p13 p14 p15 r1 r3 r5 N z v = some (z + (((List.range' v.toNat d).countP fun i : Nat => decide (at0 P (i : Int) = (i : Int)) : Nat) : Int)) := by
 intro d
 induction d with
 | zero =>
  intro v z h0 hd hz hzv
  rw [F8l0, if_neg (by simp; omega)]
  simp
 | succ d ih =>
  intro v z h0 hd hz hzv
  have hg : (0 : Int) ≤ v ∧ v < (N.length : Int) := ⟨h0, by omega⟩
  rw [F8l0]
  simp only [if_pos (show decide (v < (N.length : Int)) = true by simp; omega), if_pos hg, Option.bind_eq_bind, Option.bind_some]
  rw [w64_in (x := z + 1) (by omega) (by omega), w64_in (x := v + 1) (by omega) (by omega), show N.getD v.toNat 0 = at0 P v from hN v h0 (by omega), List.range'_succ]
  have e1 : v.toNat + 1 = (v + 1).toNat := by omega
  by_cases c : at0 P v = v
  · rw [if_pos (by simpa using c.symm)]
    simp only [Option.bind_some]
    rw [ih (v + 1) (z + 1) (by omega) (by omega) (by omega) (by omega), List.countP_cons_of_pos (by rw [Int.toNat_of_nonneg h0]; simpa using c), e1]
    congr 1; omega
  rw [if_neg (by simpa using fun e : v = at0 P v => c e.symm)]
  simp only [Option.bind_some]
  rw [ih (v + 1) z (by omega) (by omega) (by omega) (by omega), List.countP_cons_of_neg (by rw [Int.toNat_of_nonneg h0]; simpa using c), e1]
theorem shift_loop {r1 : (Int × Int × (List (Int × Int))) × (List Int) × (List Int)} {r5 : Int × Int} {sun moon N : List Int} {here : Int} (hr : r1.1.1 = S) (s : 1 ≤ S ∧ S ≤ 5) (m : 1 ≤ M ∧ M ≤ 5) (ln : (N.length : Int) = S + M) (by0 : 0 ≤ p15 ∧ p15 ≤ 255)
 (us : ∀ i, 0 ≤ i → i < S → 0 ≤ at0 sun i ∧ at0 sun i ≤ 255) (um : ∀ i, 0 ≤ i → i < M → -255 ≤ at0 moon i ∧ at0 moon i ≤ 0) : ∀ (d : Nat) (v : Int) (U V : List Int), 0 ≤ v → v + d = S + M → (U.length : Int) = S → (V.length : Int) = M →
 (∀ i, 0 ≤ i → i < S → at0 U i = at0 sun i + (if i < v ∧ at0 N i = here then p15 else 0)) → (∀ i, 0 ≤ i → i < M → at0 V i = at0 moon i - (if S + i < v ∧ at0 N (S + i) = here then p15 else 0)) →
 ∃ U' V', F8l1 p2 p13 p14 p15 here r1 r5 N v U V = some (U', V') ∧ (U'.length : Int) = S ∧ (V'.length : Int) = M ∧ (∀ i, 0 ≤ i → i < S → at0 U' i = at0 sun i + (if at0 N i = here then p15 else 0)) ∧ (∀ i, 0 ≤ i → i < M → at0 V' i = at0 moon i - (if at0 N (S + i) = here then p15 else 0)) := by
 intro d
 induction d with
 | zero =>
  intro v U V h0 hd lu lv hU hV
  refine ⟨U, V, by rw [F8l1, if_neg (by simp; omega)], lu, lv, fun i a b => ?_, fun i a b => ?_⟩
  · rw [hU i a b]
    congr 1
    by_cases c : at0 N i = here
    · rw [if_pos ⟨by omega, c⟩, if_pos c]
    rw [if_neg (fun x => c x.2), if_neg c]
  rw [hV i a b]
  congr 1
  by_cases c : at0 N (S + i) = here
  · rw [if_pos ⟨by omega, c⟩, if_pos c]
  rw [if_neg (fun x => c x.2), if_neg c]
 | succ d ih =>
  intro v U V h0 hd lu lv hU hV
  rw [F8l1, if_pos (by simp only [decide_eq_true_eq]; omega), if_pos ⟨h0, by omega⟩]
  simp only [Option.bind_eq_bind, Option.bind_some]
  rw [show N.getD v.toNat 0 = at0 N v from rfl, hr]
  have wv : w64 (v + 1) = v + 1 := w64_in (by omega) (by omega)
  have wp : w64 p15 = p15 := w64_in (by omega) (by omega)
  rw [wv, wp]
  have upU : ∀ i, 0 ≤ i → i < S → i ≠ v ∨ at0 N v ≠ here → at0 U i = at0 sun i + (if i < v + 1 ∧ at0 N i = here then p15 else 0) := fun i a b c => by
   rw [hU i a b]
   congr 1
   by_cases e : at0 N i = here
   · have : i ≠ v := by
      rcases c with c | c
      · exact c
      intro e'; rw [e'] at e; exact c e
     by_cases l : i < v
     · rw [if_pos ⟨l, e⟩, if_pos ⟨by omega, e⟩]
     rw [if_neg (fun x => l x.1), if_neg (fun x => l (by omega))]
   rw [if_neg (fun x => e x.2), if_neg (fun x => e x.2)]
  have upV : ∀ i, 0 ≤ i → i < M → S + i ≠ v ∨ at0 N v ≠ here → at0 V i = at0 moon i - (if S + i < v + 1 ∧ at0 N (S + i) = here then p15 else 0) := fun i a b c => by
   rw [hV i a b]
   congr 1
   by_cases e : at0 N (S + i) = here
   · have : S + i ≠ v := by
      rcases c with c | c
      · exact c
      intro e'; rw [e'] at e; exact c e
     by_cases l : S + i < v
     · rw [if_pos ⟨l, e⟩, if_pos ⟨by omega, e⟩]
     rw [if_neg (fun x => l x.1), if_neg (fun x => l (by omega))]
   rw [if_neg (fun x => e x.2), if_neg (fun x => e x.2)]
  by_cases c : at0 N v = here
  · rw [if_pos (by simpa using c)]
    simp only [Option.bind_some]
    by_cases cs : v < S
    · have hu := hU v h0 cs
      rw [if_neg (by omega)] at hu
      have hus := us v h0 cs
      have wx : w64 (at0 U v + p15) = at0 U v + p15 := w64_in (by omega) (by omega)
      rw [if_pos (by simpa using cs), if_pos ⟨h0, by omega⟩, show U.getD v.toNat 0 = at0 U v from rfl, wx]
      simp only [Option.bind_some]
      rw [if_pos (by simpa using c)]
      simp only [Option.bind_some]
      rw [if_neg (by simp only [decide_eq_true_eq]; omega)]
      simp only [Option.bind_some]
      refine ih (v + 1) _ _ (by omega) (by omega) (by simpa using lu) lv (fun i a b => ?_) (fun i a b => upV i a b (.inl (by omega)))
      rw [at0_set h0 (by omega) a]
      by_cases e : i = v
      · rw [if_pos e, e, if_pos ⟨by omega, c⟩]; omega
      rw [if_neg e]; exact upU i a b (.inl e)
    have hv := hV (v - S) (by omega) (by omega)
    rw [if_neg (by omega)] at hv
    have hum := um (v - S) (by omega) (by omega)
    have wx : w64 (at0 V (v - S) - p15) = at0 V (v - S) - p15 := w64_in (by omega) (by omega)
    have wy : w64 (v - S) = v - S := w64_in (by omega) (by omega)
    rw [if_neg (by simpa using cs)]
    simp only [Option.bind_some]
    rw [if_pos (by simpa using c)]
    simp only [Option.bind_some]
    rw [if_pos (by simp only [decide_eq_true_eq]; omega), wy, if_pos ⟨by omega, by omega⟩, show V.getD (v - S).toNat 0 = at0 V (v - S) from rfl, wx]
    simp only [Option.bind_some]
    refine ih (v + 1) _ _ (by omega) (by omega) lu (by simpa using lv) (fun i a b => upU i a b (.inl (by omega))) (fun i a b => ?_)
    rw [at0_set (by omega) (by omega) a]
    by_cases e : i = v - S
    · rw [if_pos e, if_pos ⟨by omega, by rw [show S + i = v by omega]; exact c⟩, e]; omega
    rw [if_neg e]; exact upV i a b (.inl (by omega))
  have cb : (at0 N v == here) = false := by simpa using c
  simp only [cb, Bool.false_eq_true, if_false, Option.bind_some]
  exact ih (v + 1) _ _ (by omega) (by omega) lu lv (fun i a b => upU i a b (.inr c)) (fun i a b => upV i a b (.inr c))
theorem give_loop {r5 : Int × Int} {sun moon U V : List Int} (h : Rec0 S M rd) (lu : (U.length : Int) = S) (lv : (V.length : Int) = M) (bu : ∀ i, 0 ≤ i → i < S → -1000 ≤ at0 U i ∧ at0 U i ≤ 1000) (bv : ∀ i, 0 ≤ i → i < M → -1000 ≤ at0 V i ∧ at0 V i ≤ 1000)
 (hg : ∀ y ∈ rd, at0 U (Int.tmod y.1 S) + at0 V (Int.tmod y.1 M) = y.2) : ∀ (d : Nat) (v : Int), 0 ≤ v → v + d = rd.length → F8l2 p2 p13 p14 ((S, M, rd), sun, moon) r5 (U, V) v = some (.inr ()) := by
 have hs := h.s
 have hm := h.m
 have hl := h.len
 intro d
 induction d with
 | zero => intro v h0 hd; rw [F8l2, if_neg (by simp; omega)]
 | succ d ih =>
  intro v h0 hd
  rw [F8l2, if_pos (by simp only [decide_eq_true_eq]; omega), if_pos ⟨h0, by dsimp only; omega⟩]
  simp only [Option.bind_eq_bind, Option.bind_some]
  have hym := getD_mem (rd := rd) (j := v.toNat) (by omega)
  have e := edge_in h hym
  have g := hg _ hym
  generalize rd.getD v.toNat (0, 0) = y at hym e g ⊢
  have b1 := bu (Int.tmod y.1 S) e.1 e.2.1
  have b2 := bv (Int.tmod y.1 M) e.2.2.1 e.2.2.2
  rw [if_neg (by omega), if_pos ⟨e.1, by omega⟩, if_neg (by omega), if_pos ⟨e.2.2.1, by omega⟩, show U.getD (Int.tmod y.1 S).toNat 0 = at0 U (Int.tmod y.1 S) from rfl, show V.getD (Int.tmod y.1 M).toNat 0 = at0 V (Int.tmod y.1 M) from rfl,
   w64_in (by omega) (by omega), g, if_neg (by simp), w64_in (by omega) (by omega)]
  exact ih (v + 1) (by omega) (by omega)
theorem ins_loop {r5 : Int × Int} {sun moon U V : List Int} (h : Rec0 S M rd) (lu : (U.length : Int) = S) (lv : (V.length : Int) = M) (bu : ∀ i, 0 ≤ i → i < S → -1000 ≤ at0 U i ∧ at0 U i ≤ 1000) (bv : ∀ i, 0 ≤ i → i < M → -1000 ≤ at0 V i ∧ at0 V i ≤ 1000) (hh : 0 ≤ p14 ∧ p14 ≤ 255) :
 ∀ (d : Nat) (v : Int) (pl : Bool) (acc : List (Int × Int)), 0 ≤ v → v + d = rd.length → acc.length ≤ v.toNat + (if pl then 1 else 0) → ∃ pl' acc', F8l3 p2 p13 p14 ((S, M, rd), sun, moon) r5 (U, V) pl v acc = some (pl', acc') ∧ acc'.length ≤ 100 ∧
  (if pl' then acc' else acc' ++ [(p14, at0 U (Int.tmod p14 S) + at0 V (Int.tmod p14 M))]) = acc ++ (if pl then rd.drop v.toNat else ins (p14, at0 U (Int.tmod p14 S) + at0 V (Int.tmod p14 M)) (rd.drop v.toNat)) := by
 have hs := h.s
 have hm := h.m
 have hl := h.len
 have ts := tmod_in hh.1 hs.1
 have tm := tmod_in hh.1 hm.1
 have b1 := bu _ ts.1 ts.2
 have b2 := bv _ tm.1 tm.2
 have wp : w64 p14 = p14 := w64_in (by omega) (by omega)
 have wq : w64 (at0 U (Int.tmod p14 S) + at0 V (Int.tmod p14 M)) = at0 U (Int.tmod p14 S) + at0 V (Int.tmod p14 M) := w64_in (by omega) (by omega)
 intro d
 induction d with
 | zero =>
  intro v pl acc h0 hd ha
  refine ⟨pl, acc, by rw [F8l3, if_neg (by simp; omega)], by split at ha <;> omega, ?_⟩
  rw [List.drop_of_length_le (by omega)]
  cases pl with
  | true => simp
  | false => rfl
 | succ d ih =>
  intro v pl acc h0 hd ha
  have hg : v.toNat < rd.length := by omega
  have hdrop : rd.drop v.toNat = rd.getD v.toNat (0, 0) :: rd.drop (v.toNat + 1) := by
   rw [List.drop_eq_getElem_cons hg]; simp [List.getD, hg]
  have ev : (v + 1).toNat = v.toNat + 1 := by omega
  rw [F8l3, if_pos (by simp only [decide_eq_true_eq]; omega), if_pos ⟨h0, by dsimp only; omega⟩, hdrop]
  simp only [Option.bind_eq_bind, Option.bind_some]
  generalize rd.getD v.toNat (0, 0) = y
  have wv : w64 (v + 1) = v + 1 := w64_in (by omega) (by omega)
  rw [wv, wp]
  have step : ∀ (pl1 : Bool) (acc1 : List (Int × Int)), acc1.length ≤ v.toNat + (if pl1 then 1 else 0) → (acc1 ++ [y]) ++ (if pl1 then rd.drop (v.toNat + 1) else ins (p14, at0 U (Int.tmod p14 S) + at0 V (Int.tmod p14 M)) (rd.drop (v.toNat + 1))) = acc ++ (if pl then y :: rd.drop (v.toNat + 1) else ins (p14, at0 U (Int.tmod p14 S) + at0 V (Int.tmod p14 M)) (y :: rd.drop (v.toNat + 1))) →
   ∃ pl' acc', F8l3 p2 p13 p14 ((S, M, rd), sun, moon) r5 (U, V) pl1 (v + 1) (acc1 ++ [(y.1, y.2)]) = some (pl', acc') ∧ acc'.length ≤ 100 ∧
    (if pl' then acc' else acc' ++ [(p14, at0 U (Int.tmod p14 S) + at0 V (Int.tmod p14 M))]) = acc ++ (if pl then y :: rd.drop (v.toNat + 1) else ins (p14, at0 U (Int.tmod p14 S) + at0 V (Int.tmod p14 M)) (y :: rd.drop (v.toNat + 1))) := fun pl1 acc1 hl1 he => by
   obtain ⟨pl', acc', q1, q2, q3⟩ := ih (v + 1) pl1 (acc1 ++ [(y.1, y.2)]) (by omega) (by omega) (by rw [ev]; simp only [List.length_append, List.length_cons, List.length_nil]; omega)
   rw [ev] at q3
   exact ⟨pl', acc', q1, q2, q3.trans he⟩
  cases pl with
  | true =>
   simp only [if_true] at ha
   simp only [if_true, Option.bind_some, Bool.false_eq_true, if_false]
   rw [if_pos (by omega)]
   exact step true acc (by simp only [if_true]; omega) (by simp)
  | false =>
   simp only [Bool.false_eq_true, if_false] at ha
   simp only [Bool.false_eq_true, if_false, Option.bind_some]
   by_cases c : y.1 > p14
   · rw [if_pos (by simpa using c), if_neg (by omega), if_pos ⟨ts.1, by omega⟩, if_neg (by omega), if_pos ⟨tm.1, by omega⟩, show U.getD (Int.tmod p14 S).toNat 0 = at0 U (Int.tmod p14 S) from rfl, show V.getD (Int.tmod p14 M).toNat 0 = at0 V (Int.tmod p14 M) from rfl, wq, if_pos (by omega)]
     simp only [Option.bind_some]
     rw [if_pos (by simp; omega)]
     have := step true (acc ++ [(p14, at0 U (Int.tmod p14 S) + at0 V (Int.tmod p14 M))])
     simp only [Bool.false_eq_true, if_false] at this
     refine this ?_ ?_
     · simp; omega
     simp only [if_true, ins]
     rw [if_pos c]
     simp
   rw [if_neg (by simpa using c)]
   simp only [Option.bind_some]
   rw [if_pos (by omega)]
   have := step false acc (by simp only [Bool.false_eq_true, if_false]; omega)
   simp only [Bool.false_eq_true, if_false] at this
   refine this ?_
   simp only [ins]
   rw [if_neg c]
   simp
theorem firsts_less {n : Int} {P P2 : List Int} {hi : Int} (h0 : 0 ≤ hi) (hn : hi < n) (hf : at0 P hi = hi) (h2 : ∀ i, 0 ≤ i → i < n → (at0 P2 i = i ↔ at0 P i = i ∧ i ≠ hi)) : firsts n.toNat P = firsts n.toNat P2 + 1 := by
 have key : ∀ k : Nat, (k : Int) ≤ n → (List.range k).countP (fun i : Nat => decide (at0 P (i : Int) = (i : Int))) = (List.range k).countP (fun i : Nat => decide (at0 P2 (i : Int) = (i : Int))) + (if hi < (k : Int) then 1 else 0) := by
  intro k
  induction k with
  | zero => intro _; rw [if_neg (by omega)]; rfl
  | succ k ih =>
   intro hk
   rw [List.range_succ, List.countP_append, List.countP_append, ih (by omega), List.countP_singleton, List.countP_singleton]
   have e := h2 (k : Int) (by omega) (by omega)
   by_cases c : (k : Int) = hi
   · rw [decide_eq_true (show at0 P (k : Int) = (k : Int) by rw [c]; exact hf), decide_eq_false (fun x => (e.1 x).2 c), show (if hi < (k : Int) then 1 else 0) = 0 from if_neg (by omega), show (if hi < ((k + 1 : Nat) : Int) then 1 else 0) = 1 from if_pos (by omega)]
     simp
   have : (if hi < ((k + 1 : Nat) : Int) then 1 else 0) = (if hi < (k : Int) then 1 else 0) := by
    by_cases l : hi < (k : Int)
    · rw [if_pos l, if_pos (by omega)]
    rw [if_neg l, if_neg (by omega)]
   rw [this]
   by_cases q : at0 P (k : Int) = (k : Int)
   · rw [decide_eq_true q, decide_eq_true (e.2 ⟨q, c⟩)]; omega
   rw [decide_eq_false q, decide_eq_false (fun x => q (e.1 x).1)]; omega
 have := key n.toNat (by omega)
 rw [if_pos (by omega)] at this
 exact this
theorem merged {n S : Int} {E E2 : Edges} {p w p' w' : Int → Int} (so : Sol n S E p w) (so2 : Sol n S E2 p' w') {a b v : Int} (ha : 0 ≤ a ∧ a < n) (hb : 0 ≤ b ∧ b < n) (hE : ∀ e, e ∈ E2 ↔ e = (a, b, v) ∨ e ∈ E) (hne : p a ≠ p b) :
 ∃ hi, 0 ≤ hi ∧ hi < n ∧ p hi = hi ∧ ∀ i, 0 ≤ i → i < n → (p' i = i ↔ p i = i ∧ i ≠ hi) := by
 have da := so.dom a ha.1 ha.2
 have db := so.dom b hb.1 hb.2
 have ia := so.idem a ha.1 ha.2
 have ib := so.idem b hb.1 hb.2
 obtain ⟨lo, hi, hl, hab⟩ : ∃ lo hi, lo < hi ∧ ((p a = lo ∧ p b = hi) ∨ (p a = hi ∧ p b = lo)) := by
  by_cases c : p a < p b
  · exact ⟨_, _, c, .inl ⟨rfl, rfl⟩⟩
  exact ⟨p b, p a, by omega, .inr ⟨rfl, rfl⟩⟩
 have hhi : p hi = hi := by rcases hab with ⟨_, e⟩ | ⟨e, _⟩ <;> rw [← e] <;> assumption
 have hlo : p lo = lo := by rcases hab with ⟨e, _⟩ | ⟨_, e⟩ <;> rw [← e] <;> assumption
 have same : ∀ x, 0 ≤ x → x < n → p' x = if p x = hi then lo else p x := fun x x0 xn => by
  have c1 := so2.conn (fun x => if p x = hi then lo else p x) (fun e he => by
   rcases (hE e).1 he with rfl | he
   · dsimp only
     rcases hab with ⟨e1, e2⟩ | ⟨e1, e2⟩
     · rw [e1, e2, if_neg (by omega), if_pos rfl]
     rw [e1, e2, if_pos rfl, if_neg (by omega)]
   show (if p e.1 = hi then lo else p e.1) = (if p e.2.1 = hi then lo else p e.2.1)
   rw [so.edge e he]) x x0 xn
  have c2 := so.conn p' (fun e he => so2.edge e ((hE e).2 (.inr he))) x x0 xn
  have c3 := so.conn p' (fun e he => so2.edge e ((hE e).2 (.inr he))) a ha.1 ha.2
  have c4 := so.conn p' (fun e he => so2.edge e ((hE e).2 (.inr he))) b hb.1 hb.2
  have c5 : p' a = p' b := so2.edge (a, b, v) ((hE _).2 (.inl rfl))
  have d1 := so.dom x x0 xn
  have d2 := so2.dom x x0 xn
  have d3 := so.dom (p' x) d2.1 (by omega)
  have d4 := so2.dom (p x) d1.1 (by omega)
  have hll : p' hi = p' lo := by
   rcases hab with ⟨e1, e2⟩ | ⟨e1, e2⟩ <;> rw [e1] at c3 <;> rw [e2] at c4 <;> omega
  have dl : 0 ≤ lo ∧ lo < n := by
   rcases hab with ⟨e1, e2⟩ | ⟨e1, e2⟩ <;> omega
  have d5 := so2.dom lo dl.1 dl.2
  by_cases c : p x = hi
  · rw [if_pos c] at c1 ⊢
    rw [c] at c2
    split at c1 <;> omega
  rw [if_neg c] at c1 ⊢
  split at c1 <;> omega
 refine ⟨hi, by rcases hab with ⟨_, e⟩ | ⟨e, _⟩ <;> omega, by rcases hab with ⟨_, e⟩ | ⟨e, _⟩ <;> omega, hhi, fun i i0 hin => ?_⟩
 rw [same i i0 hin]
 by_cases c : p i = hi
 · rw [if_pos c]
   constructor
   · intro e
     rw [← e, hlo] at c
     omega
   rintro ⟨e1, e2⟩
   omega
 rw [if_neg c]
 constructor
 · intro e
   exact ⟨e, fun x => c (by rw [x]; exact hhi)⟩
 exact fun e => e.1
theorem value_true {n S : Int} {E : Edges} {p w : Int → Int} (so : Sol n S E p w) {u : Int → Int} (hu : ∀ e ∈ E, u e.1 + u e.2.1 = e.2.2) {a b : Int} (ha : 0 ≤ a ∧ a < S) (hb : S ≤ b ∧ b < n) (hp : p a = p b) : w a + w b = u a + u b := by
 have x := so.det u hu a ha.1 (by omega)
 have y := so.det u hu b (by omega) hb.2
 have s1 : sg S a = 1 := if_pos ha.2
 have s2 : sg S b = -1 := if_neg (by omega)
 rw [s1, hp] at x
 rw [s2] at y
 have : (1 : Int) * sg S (p b) * u (p b) + -1 * sg S (p b) * u (p b) = 0 := by
  rw [Int.one_mul, Int.neg_mul, Int.neg_mul, Int.one_mul]; omega
 omega
end
theorem plain (p0 : Int) (p1 : Int) (p2 : List Int) (p3 p4 p5 p6 p7 p8 p9 p10 p11 p12 : Int) (p13 : List Int) (p14 p15 : Int)
 (wp0 : (Lit.int .u8 p0).wf = true) (wp1 : (Lit.int .u8 p1).wf = true) (wp2 : ∀ x ∈ p2, (Lit.int .u8 x).wf = true) (wp3 : (Lit.int .u8 p3).wf = true) (wp4 : (Lit.int .u8 p4).wf = true) (wp5 : (Lit.int .u8 p5).wf = true)
 (wp6 : (Lit.int .u8 p6).wf = true) (wp7 : (Lit.int .u8 p7).wf = true) (wp8 : (Lit.int .u8 p8).wf = true) (wp9 : (Lit.int .u8 p9).wf = true) (wp10 : (Lit.int .u8 p10).wf = true) (wp11 : (Lit.int .u8 p11).wf = true) (wp12 : (Lit.int .u8 p12).wf = true)
 (wp13 : ∀ x ∈ p13, (Lit.int .u8 x).wf = true) (wp14 : (Lit.int .u8 p14).wf = true) (wp15 : (Lit.int .u8 p15).wf = true) :
 F8 p0 p1 p2 p3 p4 p5 p6 p7 p8 p9 p10 p11 p12 p13 p14 p15 = some true := by
 obtain ⟨S, M, rd, sun, moon, a1, s, m, ls, lm, us, um, a2, hasc, a4⟩ := made (p13 := p13) (b8_of wp0) (b8_of wp1) (fun x hx => b8_of (wp2 x hx)) (p3 := p3) (p4 := p4) (p5 := p5) (p6 := p6) (p7 := p7) (p8 := p8) (p9 := p9) (p10 := p10) (p11 := p11) (p12 := p12) (fun x hx => by
  simp only [List.mem_cons, List.not_mem_nil, or_false] at hx
  rcases hx with rfl | rfl | rfl | rfl | rfl | rfl | rfl | rfl | rfl | rfl <;> exact b8_of (by assumption))
 obtain ⟨h0, h1⟩ := b8_of wp14
 obtain ⟨by0, by1⟩ := b8_of wp15
 have h := made_rec s m ls lm us um a2 a4
 obtain ⟨out, P, W, B⟩ := both_of h hasc
 have ts := tmod_in h0 s.1
 have tm := tmod_in h0 m.1
 have us' : ∀ i, 0 ≤ i → i < S → 0 ≤ at0 sun i ∧ at0 sun i ≤ 255 := fun i a b => getD_all (d := 0) us (by omega)
 have um' : ∀ i, 0 ≤ i → i < M → -255 ≤ at0 moon i ∧ at0 moon i ≤ 0 := fun i a b => getD_all (d := 0) um (by omega)
 have wp : w64 p14 = p14 := w64_in (by omega) (by omega)
 have hw : plain.Good (edges S M rd) (fun i => if i < S then at0 sun i else at0 moon (i - S)) := good_rd.2 fun y hy => by
  have e := edge_in h hy
  unfold goodR
  dsimp only
  rw [if_pos e.2.1, if_neg (by omega), show S + Int.tmod y.1 M - S = Int.tmod y.1 M by omega]
  exact (a4 y hy).2.symm
 have g1 := B.so.good (edges_ends h) hw
 have g2 := B.sr.good (edges_ends h) hw
 have hfit : F21 S M rd = some 0 := by
  obtain ⟨k, f, q⟩ := B.fits
  rcases q with ⟨_, _, _, _, q⟩ | ⟨_, _, q, _⟩
  · rw [B.fitsE, q]
  exact absurd g1 q
 have hv := value_eq B g1 h0 (by omega)
 obtain ⟨N, n1, n2, n3⟩ := nodes_ok h B.sr
 have hcount := count_loop (p2 := p2) (p13 := p13) (p14 := p14) (p15 := p15) (r1 := ((S, M, rd), sun, moon)) (r3 := (if partOf S out (Int.tmod p14 S) = partOf S out (S + Int.tmod p14 M) then (waveOf S out (Int.tmod p14 S) + waveOf S out (S + Int.tmod p14 M), 0) else (0, 14))) (r5 := ((firsts (S + M).toNat P : Int), 0)) (by omega) n2 n3 (S + M).toNat 0 0 (Int.le_refl _) (by omega) (Int.le_refl _) (Int.le_refl _)
 have hrange : List.range' (0 : Int).toNat (S + M).toNat = List.range (S + M).toNat := by rw [Int.toNat_zero, List.range_eq_range']
 rw [hrange] at hcount
 have hfc : (List.range (S + M).toNat).countP (fun i : Nat => decide (at0 P (i : Int) = (i : Int))) = firsts (S + M).toNat P := rfl
 rw [hfc, Int.zero_add] at hcount
 have pa : partOf S out (Int.tmod p14 S) = at0 P (Int.tmod p14 S) := B.so.part_eq B.sr ts.1 (by omega)
 have pb : partOf S out (S + Int.tmod p14 M) = at0 P (S + Int.tmod p14 M) := B.so.part_eq B.sr (by omega) (by omega)
 have na : N.getD (Int.tmod p14 S).toNat 0 = at0 P (Int.tmod p14 S) := n3 _ ts.1 (by omega)
 have nb : N.getD (S + Int.tmod p14 M).toNat 0 = at0 P (S + Int.tmod p14 M) := n3 _ (by omega) (by omega)
 have wsm : w64 (S + Int.tmod p14 M) = S + Int.tmod p14 M := w64_in (by omega) (by omega)
 unfold F8
 rw [a1]
 simp only [Option.bind_eq_bind, Option.bind_some]
 rw [wp, hv]
 simp only [Option.bind_some]
 rw [B.parts]
 simp only [Option.bind_some]
 rw [n1]
 simp only [Option.bind_some]
 rw [hcount]
 simp only [Option.bind_some, bne_self_eq_false, Bool.false_eq_true, if_false]
 rw [hfit]
 simp only [Option.bind_some, bne_self_eq_false, Bool.false_eq_true, if_false]
 rw [if_neg (by omega), if_pos ⟨ts.1, by omega⟩, if_neg (by omega), wsm, if_pos ⟨by omega, by omega⟩, na, nb]
 by_cases c : at0 P (Int.tmod p14 S) = at0 P (S + Int.tmod p14 M)
 · have vt := value_true (u := fun i => if i < S then at0 sun i else at0 moon (i - S)) B.so hw (a := Int.tmod p14 S) (b := S + Int.tmod p14 M) ts ⟨by omega, by omega⟩ (by rw [pa, pb, c])
   rw [if_pos ts.2, if_neg (by omega), show S + Int.tmod p14 M - S = Int.tmod p14 M by omega] at vt
   have u1 := us' _ ts.1 ts.2
   have u2 := um' _ tm.1 tm.2
   have e1 : (partOf S out (Int.tmod p14 S) = partOf S out (S + Int.tmod p14 M)) := by rw [pa, pb, c]
   rw [if_pos (by simpa using c), if_pos e1]
   simp only [beq_self_eq_true, if_true]
   rw [if_pos ⟨ts.1, by omega⟩, if_pos ⟨tm.1, by omega⟩, show sun.getD (Int.tmod p14 S).toNat 0 = at0 sun (Int.tmod p14 S) from rfl, show moon.getD (Int.tmod p14 M).toNat 0 = at0 moon (Int.tmod p14 M) from rfl, vt, w64_in (by omega) (by omega), if_pos (by simp)]
   rfl
 have e1 : ¬ (partOf S out (Int.tmod p14 S) = partOf S out (S + Int.tmod p14 M)) := by rw [pa, pb]; exact c
 rw [if_neg (by simpa using c), if_neg e1]
 simp only [bne_self_eq_false, Bool.false_eq_true, if_false]
 obtain ⟨U, V, f1, lu, lv, hU, hV⟩ := shift_loop (S := S) (M := M) (p2 := p2) (p13 := p13) (p14 := p14) (p15 := p15) (r1 := ((S, M, rd), sun, moon)) (r5 := ((firsts (S + M).toNat P : Int), 0)) (here := at0 P (Int.tmod p14 S)) (N := N) rfl s m n2 ⟨by0, by1⟩ us' um' (S + M).toNat 0 sun moon (Int.le_refl _) (by omega) ls lm (fun i a b => by rw [if_neg (by omega)]; omega) (fun i a b => by rw [if_neg (by omega)]; omega)
 have bu : ∀ i, 0 ≤ i → i < S → -1000 ≤ at0 U i ∧ at0 U i ≤ 1000 := fun i a b => by
  have := us' i a b
  rw [hU i a b]
  split <;> omega
 have bv : ∀ i, 0 ≤ i → i < M → -1000 ≤ at0 V i ∧ at0 V i ≤ 1000 := fun i a b => by
  have := um' i a b
  rw [hV i a b]
  split <;> omega
 have hgive : ∀ y ∈ rd, at0 U (Int.tmod y.1 S) + at0 V (Int.tmod y.1 M) = y.2 := fun y hy => by
  have e := edge_in h hy
  have pe : at0 N (Int.tmod y.1 S) = at0 N (S + Int.tmod y.1 M) := by
   rw [n3 _ e.1 (by omega), n3 _ (by omega) (by omega)]
   exact B.sr.edge _ (edge_mem (S := S) (M := M) hy)
  rw [hU _ e.1 e.2.1, hV _ e.2.2.1 e.2.2.2, pe, (a4 y hy).2]
  omega
 have hq := give_loop (p2 := p2) (p13 := p13) (p14 := p14) (r5 := ((firsts (S + M).toNat P : Int), 0)) (sun := sun) (moon := moon) h lu lv bu bv hgive rd.length 0 (Int.le_refl _) (by omega)
 obtain ⟨pl, acc, i1, i2, i3⟩ := ins_loop (p2 := p2) (p13 := p13) (p14 := p14) (r5 := ((firsts (S + M).toNat P : Int), 0)) (sun := sun) (moon := moon) h lu lv bu bv ⟨h0, h1⟩ rd.length 0 false [] (Int.le_refl _) (by omega) (by simp)
 simp only [Bool.false_eq_true, if_false, Int.toNat_zero, List.drop_zero, List.nil_append] at i3
 have b1 := bu _ ts.1 ts.2
 have b2 := bv _ tm.1 tm.2
 have wq : w64 (at0 U (Int.tmod p14 S) + at0 V (Int.tmod p14 M)) = at0 U (Int.tmod p14 S) + at0 V (Int.tmod p14 M) := w64_in (by omega) (by omega)
 rw [f1]
 simp only [Option.bind_some]
 rw [hq]
 simp only [Option.bind_some]
 rw [i1]
 simp only [Option.bind_some]
 have hno : ∀ y ∈ rd, y.1 ≠ p14 := fun y hy e => by
  have := B.sr.edge _ (edge_mem (S := S) (M := M) hy)
  unfold edge at this
  rw [e] at this
  exact c this
 have h2 : Rec0 S M (ins (p14, at0 U (Int.tmod p14 S) + at0 V (Int.tmod p14 M)) rd) := ⟨h.s, h.m, by rw [ins_len]; omega, fun y hy => by
  rcases ins_mem.1 hy with rfl | hy
  · exact ⟨h0, by dsimp only; omega⟩
  · exact h.hour y hy, fun y hy => by
  rcases ins_mem.1 hy with rfl | hy
  · dsimp only; omega
  exact h.val y hy⟩
 have asc2 : Asc (ins (p14, at0 U (Int.tmod p14 S) + at0 V (Int.tmod p14 M)) rd) := pair_asc (ins_pair (asc_pair hasc) hno)
 obtain ⟨out2, P2, W2, B2⟩ := both_of h2 asc2
 obtain ⟨hi, m1, m2, m3, m4⟩ := merged (v := at0 U (Int.tmod p14 S) + at0 V (Int.tmod p14 M)) B.sr B2.sr (a := Int.tmod p14 S) (b := S + Int.tmod p14 M) ⟨ts.1, by omega⟩ ⟨by omega, by omega⟩ (fun e => by
  unfold edges
  simp only [List.mem_map, ins_mem]
  constructor
  · rintro ⟨y, rfl | hy, rfl⟩
    · exact .inl rfl
    exact .inr ⟨y, hy, rfl⟩
  rintro (rfl | ⟨y, hy, rfl⟩)
  · exact ⟨_, .inl rfl, rfl⟩
  exact ⟨y, .inr hy, rfl⟩) c
 have hcnt := firsts_less m1 m2 m3 m4
 have hw2 : plain.Good (edges S M (ins (p14, at0 U (Int.tmod p14 S) + at0 V (Int.tmod p14 M)) rd)) (fun i => if i < S then at0 U i else at0 V (i - S)) := good_rd.2 fun y hy => by
  have e := edge_in h2 hy
  unfold goodR
  dsimp only
  rw [if_pos e.2.1, if_neg (by omega), show S + Int.tmod y.1 M - S = Int.tmod y.1 M by omega]
  rcases ins_mem.1 hy with rfl | hy
  · rfl
  exact hgive y hy
 have hfit2 : F21 S M (ins (p14, at0 U (Int.tmod p14 S) + at0 V (Int.tmod p14 M)) rd) = some 0 := by
  obtain ⟨k, f, q⟩ := B2.fits
  rcases q with ⟨_, _, _, _, q⟩ | ⟨_, _, q, _⟩
  · rw [B2.fitsE, q]
  exact absurd (B2.so.good (edges_ends h2) hw2) q
 have hfin : ∀ l : List (Int × Int), l = ins (p14, at0 U (Int.tmod p14 S) + at0 V (Int.tmod p14 M)) rd → ((F18 S M l).bind fun r278 => ((if (r278.2 == 0) = true then if (r278.1 == w64 ((firsts (S + M).toNat P : Int) - 1)) = true then (F21 S M l).bind fun r282 => if (r282 == 0) = true then F14.bind fun r285 => some r285 else some false else some false else some false).bind fun m287 => some m287)) = some true := fun l hl => by
  rw [hl, B2.parts, hfit2]
  simp only [Option.bind_some, beq_self_eq_true, if_true]
  have hb : firsts (S + M).toNat P ≤ (S + M).toNat := by
   have : firsts (S + M).toNat P ≤ (List.range (S + M).toNat).length := List.countP_le_length
   simpa using this
  rw [w64_in (by omega) (by omega), if_pos (by rw [beq_iff_eq]; omega)]
  rfl
 cases pl with
 | true =>
  simp only [if_true] at i3
  simp only [if_true, Option.bind_some, Bool.false_eq_true, if_false]
  exact hfin acc i3
 | false =>
  simp only [Bool.false_eq_true, if_false] at i3
  simp only [if_true, Option.bind_some, Bool.false_eq_true, if_false]
  rw [if_pos ⟨ts.1, by omega⟩, if_pos ⟨tm.1, by omega⟩, show U.getD (Int.tmod p14 S).toNat 0 = at0 U (Int.tmod p14 S) from rfl, show V.getD (Int.tmod p14 M).toNat 0 = at0 V (Int.tmod p14 M) from rfl, wq, if_pos (by omega)]
  simp only [Option.bind_some]
  exact hfin _ i3
end Go.Proofs.Ytdekbjfjbbdjgaa.waveTrue
