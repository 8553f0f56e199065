/- CardCourses: the plain law. -/
import Derived.Test.YthpfffijnkmdgaaLF4
import Derived.Test.YthpfffijnkmdgaaLR4
set_option linter.unusedVariables false
set_option linter.unusedSimpArgs false
set_option linter.unusedSectionVars false
set_option maxRecDepth 100000
namespace Go.Proofs.Ythpfffijnkmdgaa.plain
open Go Go.Cl
section
variable {c : Card} {m n : Int} {i : Nat} {x : Rat}
theorem F16_eq (hc : c.length ≤ 1000) : F16 c = some c := by
 have go : ∀ (d v : Nat) (out : Card), v + d = c.length → out.length ≤ v → F16l0 c out v = some (out ++ c.drop v) := by
  intro d
  induction d with
  | zero => intro v out hd ho; rw [F16l0, if_neg (by simp; omega), List.drop_eq_nil_of_le (by omega), List.append_nil]
  | succ d ih =>
   intro v out hd ho
   have hlt : v < c.length := by omega
   have hdr : c.drop v = c[v] :: c.drop (v + 1) := List.drop_eq_getElem_cons hlt
   rw [F16l0, if_pos (by simp; omega), if_pos ⟨by omega, by omega⟩, w64_up (by omega)]
   simp only [Option.bind_eq_bind, Option.bind_some, show ((v : Int)).toNat = v from rfl, cons_get _ hlt]
   rw [if_pos (by omega), ih (v + 1) _ (by omega) (by simp; omega), hdr, List.append_assoc]
   rfl
 have f : F16l0 c [] 0 = some ([] ++ c.drop 0) := go c.length 0 [] (by omega) (Nat.zero_le _)
 unfold F16
 rw [f]
 rfl
theorem F28_eq {a : List Pt} (ha : a.length ≤ 1000) : F28 a a = some true := by
 have go : ∀ d v : Nat, v + d = a.length → F28l0 a a v = some (.inr ()) := by
  intro d
  induction d with
  | zero => intro v hd; rw [F28l0, if_neg (by simp; omega)]
  | succ d ih =>
   intro v hd
   have hlt : v < a.length := by omega
   rw [F28l0, if_pos (by simp; omega), if_pos ⟨by omega, by omega⟩]
   simp only [Option.bind_eq_bind, Option.bind_some]
   rw [if_pos ⟨by omega, by omega⟩]
   simp only [beq_self_eq_true, Bool.and_true, Bool.not_true, Bool.false_eq_true, if_false, Option.bind_some]
   rw [w64_up (by omega)]
   exact ih (v + 1) (by omega)
 have f : F28l0 a a 0 = some (.inr ()) := go a.length 0 (by omega)
 unfold F28
 rw [if_neg (by simp), f]
 rfl
theorem F68_two {x y : Rat} {M N : Nat} (hM : M ≤ 20000) (hN : N ≤ 1000000000000) (hx : Sm M N x) (hy : Sm M N y) : F68 (fr x).1 (fr x).2 (fr y).1 (fr y).2 = some (decide (x < y)) := by
 have b1 := b62 (a := x.num) (b := (y.den : Int)) N M hx.num (by have := hy.den; omega) (Nat.le_trans (Nat.mul_le_mul hN hM) (by decide))
 have b2 := b62 (a := y.num) (b := (x.den : Int)) N M hy.num (by have := hx.den; omega) (Nat.le_trans (Nat.mul_le_mul hN hM) (by decide))
 unfold F68 fr
 dsimp only
 rw [w64_in (by have := b1.1; omega) (by have := b1.2; omega), w64_in (by have := b2.1; omega) (by have := b2.2; omega)]
 congr 1
 rw [decide_eq_decide, Rat.lt_iff]
def ins (L : List Rat) (x : Rat) : List Rat := (insR (fun a b : Rat => a < b) L.reverse x).reverse
theorem ins_perm (L : List Rat) (x : Rat) : (ins L x).Perm (L ++ [x]) := by
 unfold ins
 refine (List.reverse_perm _).trans (insR_perm.trans ?_)
 refine (List.Perm.cons x (List.reverse_perm L)).trans ?_
 exact (List.perm_append_comm (l₁ := [x]) (l₂ := L))
theorem ins_srt {L : List Rat} (h : L.Pairwise fun a b => ¬ b < a) : (ins L x).Pairwise fun a b => ¬ b < a := by
 unfold ins
 rw [List.pairwise_reverse]
 refine insR_down rat_tr rat_as ?_
 unfold Down
 rw [List.pairwise_reverse]
 exact h
abbrev S36 (x : Rat) : Prop := Sm 5400 (3600 * 5400) x
theorem e25l2 (c : Card) (m : Int) (q : (Int × Int) × (Int × Int)) (i t : Int) (hx : S36 x) : ∀ (R C : List Rat), (∀ a ∈ R, S36 a) → R.length + C.length < 1000 → F25l2 c m q i t R.length ((R.reverse ++ x :: C).map fr) = some (((insR (fun a b : Rat => a < b) R x).reverse ++ C).map fr)
 | [], C, hG, hl => by
  rw [F25l2]
  simp [insR]
 | a :: R, C, hG, hl => by
  rw [List.length_cons] at hl
  have h1 : ((R.length + 1 : Nat) : Int) - 1 = (R.length : Int) := by omega
  have e1 : (((a :: R).reverse ++ x :: C).map fr) = R.reverse.map fr ++ fr a :: fr x :: C.map fr := by simp
  have e1' : (((a :: R).reverse ++ x :: C).map fr) = (R.reverse.map fr ++ [fr a]) ++ fr x :: C.map fr := by simp
  have hlen : (R.reverse.map fr ++ fr a :: fr x :: C.map fr).length = R.length + 1 + (C.length + 1) := by simp; omega
  have g1 : (R.reverse.map fr ++ fr a :: fr x :: C.map fr).getD (R.length + 1) (0, 0) = fr x := by rw [← e1, e1']; exact getD_app (by simp) _
  have g2 : (R.reverse.map fr ++ fr a :: fr x :: C.map fr).getD R.length (0, 0) = fr a := getD_app (by simp) _
  rw [e1, F25l2, List.length_cons, w64_in (x := ((R.length + 1 : Nat) : Int) - 1) (by omega) (by omega), h1, hlen]
  have c1 : ((R.length + 1 : Nat) : Int) > 0 := by omega
  have c2 : (0 : Int) ≤ ((R.length + 1 : Nat) : Int) ∧ ((R.length + 1 : Nat) : Int) < ((R.length + 1 + (C.length + 1) : Nat) : Int) := by omega
  have c3 : (0 : Int) ≤ (R.length : Int) ∧ (R.length : Int) < ((R.length + 1 + (C.length + 1) : Nat) : Int) := by omega
  simp only [c1, decide_true, if_true, if_pos c2, if_pos c3, Option.bind_eq_bind, Option.bind_some, Int.toNat_natCast, g1, g2]
  rw [F68_two (by decide) (by decide) hx (hG a List.mem_cons_self), Option.bind_some, Option.bind_some, insR]
  by_cases hp : x < a
  · simp only [hp, decide_true, if_true]
    have s1 : (R.reverse.map fr ++ fr a :: fr x :: C.map fr).set R.length ((fr x).1, (fr x).2) = R.reverse.map fr ++ fr x :: fr x :: C.map fr := set_app (by simp)
    have s1' : (R.reverse.map fr ++ fr a :: fr x :: C.map fr).set (R.length + 1) ((fr a).1, (fr a).2) = (R.reverse.map fr ++ [fr a]) ++ fr a :: C.map fr := by
     rw [show R.reverse.map fr ++ fr a :: fr x :: C.map fr = (R.reverse.map fr ++ [fr a]) ++ fr x :: C.map fr by simp]
     exact set_app (by simp)
    have s2 : ((R.reverse.map fr ++ [fr a]) ++ fr a :: C.map fr).set R.length ((fr x).1, (fr x).2) = (R.reverse ++ x :: a :: C).map fr := by
     rw [show (R.reverse.map fr ++ [fr a]) ++ fr a :: C.map fr = R.reverse.map fr ++ fr a :: fr a :: C.map fr by simp, show (R.reverse ++ x :: a :: C).map fr = R.reverse.map fr ++ fr x :: fr a :: C.map fr by simp]
     exact set_app (by simp)
    rw [s1', s2, e25l2 c m q i t hx R (a :: C) (fun b hb => hG b (List.mem_cons_of_mem _ hb)) (by simp only [List.length_cons]; omega)]
    simp
  simp only [hp, decide_false, Bool.false_eq_true, if_false]
  simp
theorem e25ins (c : Card) (m : Int) (q : (Int × Int) × (Int × Int)) (i t : Int) (hx : S36 x) {L : List Rat} (hL : ∀ a ∈ L, S36 a) (hl : L.length < 900) : F25l2 c m q i t (w64 ((List.length (L.map fr ++ [((fr x).1, (fr x).2)]) : Int) - 1)) (L.map fr ++ [((fr x).1, (fr x).2)]) = some ((ins L x).map fr) := by
 have e : L.map fr ++ [((fr x).1, (fr x).2)] = (L.reverse.reverse ++ x :: []).map fr := by simp
 have w : w64 ((List.length (L.map fr ++ [((fr x).1, (fr x).2)]) : Int) - 1) = (L.reverse.length : Int) := by
  rw [w64_in (by simp) (by simp; omega)]
  simp
 rw [w, e, e25l2 c m q i t hx L.reverse [] (fun a ha => hL a (List.mem_reverse.1 ha)) (by simp; omega), List.append_nil]
 rfl
theorem F69_wrap (hd : x.den ≤ 6000) (h0 : 0 ≤ x) (h1 : x < ((7200 : Int) : Rat)) : F69 (fr x).1 (fr x).2 = some (fr (wrap x)) := by
 have hp := den_pos x
 have hn := Rat.num_nonneg.2 h0
 have h1' := lt_int.1 h1
 show F69 x.num x.den = _
 unfold F69
 rw [F69l0, if_neg (by simp; omega)]
 simp only [Option.bind_eq_bind, Option.bind_some]
 rw [F69l1, w64_in (x := 3600 * (x.den : Int)) (by omega) (by omega)]
 unfold wrap
 by_cases h : x < ((3600 : Int) : Rat)
 · have := lt_int.1 h
   rw [if_neg (by simp; omega), if_pos h]; rfl
 have h2 := int_le.1 (Rat.not_lt.1 h)
 obtain ⟨a1, a2⟩ := add_int x (-3600)
 rw [if_pos (by simp; omega), if_neg h, w64_in (by omega) (by omega), F69l1, w64_in (x := 3600 * (x.den : Int)) (by omega) (by omega), if_neg (by simp; omega)]
 unfold fr
 rw [a1, a2, Option.bind_some]
 congr 2
theorem F61_eq (hc : Ok c) (hi : i < c.length) : F61 c i = some (cb c i - ca c i) := by
 have r := hc.rng i hi
 have sg := hc.seg hi
 unfold F61
 rw [F66_eq hc hi]
 simp only [Option.bind_eq_bind, Option.bind_some]
 rw [w64_in (x := (B c i).1 - (A c i).1) (by omega) (by omega), w64_in (x := (B c i).1 - (A c i).1 + (B c i).2) (by omega) (by omega), w64_in (by omega) (by omega)]
 congr 1
 unfold ca cb
 omega
theorem hit_iff (hc : Ok c) (hi : i < c.length) (hne : ca c i ≠ cb c i) (n : Int) : Hit (ca c i) (cb c i) n ↔ 0 ≤ part c i n ∧ part c i n < (((B c i).1 - (A c i).1 : Int) : Rat) := by
 refine ⟨fun h => part_rng hc hi h, fun ⟨a, b⟩ => ?_⟩
 have sg := hc.seg hi
 have hL0 : 0 < (B c i).1 - (A c i).1 := by omega
 unfold part at a b
 by_cases hd : ca c i < cb c i
 · have hd0 : 0 < cb c i - ca c i := by omega
   refine .inl ?_
   have a' : ((0 : Int) : Rat) ≤ Rat.divInt ((n - ca c i) * ((B c i).1 - (A c i).1)) (cb c i - ca c i) := a
   rw [le_divInt hd0, Int.zero_mul] at a'
   rw [divInt_lt hd0, Int.mul_comm] at b
   have b2 := Int.lt_of_mul_lt_mul_left b (by omega)
   refine ⟨?_, by omega⟩
   refine Int.not_lt.1 fun z => ?_
   have := Int.mul_neg_of_neg_of_pos (show n - ca c i < 0 by omega) hL0
   omega
 have hd0 : 0 < -(cb c i - ca c i) := by omega
 refine .inr ?_
 have e : -((n - ca c i) * ((B c i).1 - (A c i).1)) = (ca c i - n) * ((B c i).1 - (A c i).1) := by rw [← Int.neg_mul]; congr 1; omega
 rw [← Rat.neg_divInt_neg, e] at a b
 have a' : ((0 : Int) : Rat) ≤ Rat.divInt ((ca c i - n) * ((B c i).1 - (A c i).1)) (-(cb c i - ca c i)) := a
 rw [le_divInt hd0, Int.zero_mul] at a'
 rw [divInt_lt hd0, Int.mul_comm] at b
 have b2 := Int.lt_of_mul_lt_mul_left b (by omega)
 refine ⟨by omega, ?_⟩
 refine Int.not_lt.1 fun z => ?_
 have := Int.mul_neg_of_neg_of_pos (show ca c i - n < 0 by omega) hL0
 omega
theorem rstep (hc : Ok c) (m0 : 0 ≤ m) (m1 : m < 3600) (hi : i < c.length) (hne : ca c i ≠ cb c i) {t : Int} (t0 : -2 ≤ t) (t1 : t ≤ 2) (L : List Rat) (hL : ∀ a ∈ L, S36 a) (hl : L.length < 900) :
 F25l1 c m (A c i, B c i) i t (L.map fr) = F25l1 c m (A c i, B c i) i (t + 1) ((if Hit (ca c i) (cb c i) (m + t * 3600) then ins L (sAt c i (m + t * 3600)) else L).map fr) := by
 have hn : -7200 ≤ m + t * 3600 ∧ m + t * 3600 < 10800 := by omega
 have en := hc.ends hi
 have r := hc.rng i hi
 have sg := hc.seg hi
 rw [F25l1, if_pos (by simpa using t1), w64_in (x := t * 3600) (by omega) (by omega), w64_in (x := m + t * 3600) (by omega) (by omega), w64_in (x := t + 1) (by omega) (by omega)]
 generalize hnn : m + t * 3600 = n at *
 have e0 : w64 (w64 (n - (A c i).1) - (A c i).2) = n - ca c i := by
  rw [w64_in (x := n - (A c i).1) (by omega) (by omega), w64_in (by omega) (by omega)]
  unfold ca
  omega
 simp only [Option.bind_eq_bind]
 rw [e0, F61_eq hc hi]
 simp only [Option.bind_some]
 have m9 : ((n - ca c i) * ((B c i).1 - (A c i).1)).natAbs ≤ 11700 * 3600 := by rw [Int.natAbs_mul]; exact Nat.mul_le_mul (by omega) (by omega)
 rw [if_neg (by simp; omega), w64_in (x := (B c i).1 - (A c i).1) (by omega) (by omega), w64_in (x := (n - ca c i) * ((B c i).1 - (A c i).1)) (by omega) (by omega), F67_eq ⟨by omega, by omega⟩ ⟨by omega, by omega⟩, F89_eq ⟨by omega, by omega⟩ ⟨by omega, by omega⟩ (by omega), show Rat.divInt ((n - ca c i) * ((B c i).1 - (A c i).1)) (cb c i - ca c i) = part c i n from rfl]
 simp only [Option.bind_some]
 have hL0 : 0 < (B c i).1 - (A c i).1 := by omega
 have pn : (part c i n).num.natAbs ≤ 11700 * 3600 := by
  unfold part
  rw [Rat.num_divInt]
  refine Nat.le_trans (Int.natAbs_ediv_le_natAbs _ _) ?_
  rw [Int.natAbs_mul]
  have : (cb c i - ca c i).sign.natAbs ≤ 1 := by
   rcases Int.lt_trichotomy (cb c i - ca c i) 0 with g | g | g
   · rw [Int.sign_eq_neg_one_of_neg g]; decide
   · rw [g]; decide
   rw [Int.sign_eq_one_of_pos g]; decide
  exact Nat.le_trans (Nat.mul_le_mul this m9) (by omega)
 have pd : (part c i n).den ≤ 5400 := by
  unfold part
  rw [Rat.den_divInt]
  split
  · omega
  exact Nat.le_trans (Nat.div_le_self _ _) (by omega)
 have iff1 := hit_iff hc hi hne n
 have F59e : ∀ p, F59 p = some (p, 1) := fun p => rfl
 have m15 : ((if decide ((fr (part c i n)).1 < 0) = true then some true else (F59 ((B c i).1 - (A c i).1)).bind fun r711 => (F68 (fr (part c i n)).1 (fr (part c i n)).2 r711.1 r711.2).bind fun r713 => some (!r713)) : Option Bool) = some (!decide (Hit (ca c i) (cb c i) n)) := by
  have fs := F68_eq (x := part c i n) (M := 5400) (N := 11700 * 3600) ((B c i).1 - (A c i).1) ⟨pd, by omega⟩ (by omega) (by omega) (by omega)
  by_cases g : 0 ≤ part c i n
  · have g' := Rat.num_nonneg.2 g
    rw [decide_eq_false (show ¬ (fr (part c i n)).1 < 0 by show ¬ (part c i n).num < 0; omega), if_neg (by decide), F59e]
    simp only [Option.bind_some]
    show (F68 (part c i n).num (part c i n).den ((B c i).1 - (A c i).1) 1).bind _ = _
    rw [fs, Option.bind_some]
    congr 2
    rw [decide_eq_decide, iff1]
    exact ⟨fun h => ⟨g, h⟩, fun h => h.2⟩
  have g' : ¬ 0 ≤ (part c i n).num := fun z => g (Rat.num_nonneg.1 z)
  rw [decide_eq_true (show (fr (part c i n)).1 < 0 by show (part c i n).num < 0; omega), if_pos rfl, decide_eq_false (fun z => g (iff1.1 z).1)]
  rfl
 rw [m15]
 simp only [Option.bind_some]
 by_cases g : Hit (ca c i) (cb c i) n
 · rw [decide_eq_true g, if_neg (by decide), if_pos g, F59e]
   simp only [Option.bind_some]
   have f70 : F70 (A c i).1 1 (fr (part c i n)).1 (fr (part c i n)).2 = some (fr (((A c i).1 : Rat) + part c i n)) := by
    refine F70_fr (x := ((A c i).1 : Rat)) (y := part c i n) ?_ ?_ ?_
    · exact b62_two 3600 5400 (by show (A c i).1.natAbs ≤ 3600; omega) (by omega) (by decide)
    · exact b62_two (11700 * 3600) 1 (by omega) (by show ((1 : Nat) : Int).natAbs ≤ 1; decide) (by decide)
    exact b62 1 5400 (by show ((1 : Nat) : Int).natAbs ≤ 1; decide) (by omega) (by decide)
   rw [f70, Option.bind_some, Rat.add_comm]
   obtain ⟨q1, q2, q3, q4⟩ := place_rng hc hi g
   rw [F69_wrap (by rw [(add_int _ _).2]; omega) q1 q4]
   simp only [Option.bind_some]
   obtain ⟨z1, z2, z3⟩ := sAt_rng hc hi g
   rw [if_pos (by rw [List.length_map]; omega)]
   rw [show wrap (part c i n + ((A c i).1 : Rat)) = sAt c i n from rfl, e25ins c m (A c i, B c i) i t (sm_3600 z1 z2 z3) hL hl, Option.bind_some]
 rw [decide_eq_false g, if_pos (by decide), if_neg g]
def rem (c : Card) (m : Int) (i : Nat) : Nat → Int → List Int
 | 0, _ => []
 | e + 1, t => if Hit (ca c i) (cb c i) (m + t * 3600) then (m + t * 3600) :: rem c m i e (t + 1) else rem c m i e (t + 1)
theorem rem_sol : rem c m i 5 (-2) = sol c m i := by
 have e1 : m + (-2) * 3600 = m - 7200 := by omega
 have e2 : m + (-2 + 1) * 3600 = m - 3600 := by omega
 have e3 : m + (-2 + 1 + 1) * 3600 = m := by omega
 have e4 : m + (-2 + 1 + 1 + 1) * 3600 = m + 3600 := by omega
 have e5 : m + (-2 + 1 + 1 + 1 + 1) * 3600 = m + 7200 := by omega
 unfold sol tl
 simp only [rem, e1, e2, e3, e4, e5, List.filter_cons, List.filter_nil, decide_eq_true_eq]
def Set_ (S L : List Rat) : Prop := S.Perm L ∧ S.Pairwise fun a b => ¬ b < a
theorem rl1 (hc : Ok c) (m0 : 0 ≤ m) (m1 : m < 3600) (hi : i < c.length) (hne : ca c i ≠ cb c i) : ∀ (e : Nat) (t : Int), t + e = 3 → -2 ≤ t → ∀ L : List Rat, (∀ a ∈ L, S36 a) → L.length + e < 900 → (L.Pairwise fun a b => ¬ b < a) →
 ∃ S, F25l1 c m (A c i, B c i) i t (L.map fr) = some (.inr (S.map fr)) ∧ Set_ S (L ++ (rem c m i e t).map (sAt c i)) ∧ ∀ a ∈ S, S36 a := by
 intro e
 induction e with
 | zero => intro t ht t0 L hL hl hs; rw [F25l1, if_neg (by simp; omega)]; exact ⟨L, rfl, by simp [rem, Set_, hs], hL⟩
 | succ e ih =>
  intro t ht t0 L hL hl hs
  rw [rem, rstep hc m0 m1 hi hne t0 (by omega) L hL (by omega)]
  by_cases g : Hit (ca c i) (cb c i) (m + t * 3600)
  · rw [if_pos g, if_pos g]
    obtain ⟨z1, z2, z3⟩ := sAt_rng hc hi g
    have hx := sm_3600 z1 z2 z3
    have hp := ins_perm L (sAt c i (m + t * 3600))
    obtain ⟨S, f, ⟨p, s⟩, q⟩ := ih (t + 1) (by omega) (by omega) (ins L (sAt c i (m + t * 3600))) (fun a ha => by
     rcases List.mem_append.1 (hp.mem_iff.1 ha) with h | h
     · exact hL a h
     rw [List.mem_singleton.1 h]; exact hx) (by rw [hp.length_eq, List.length_append, List.length_singleton]; omega) (ins_srt hs)
    refine ⟨S, f, ⟨p.trans ?_, s⟩, q⟩
    refine (hp.append_right _).trans ?_
    rw [List.map_cons, List.append_assoc]
    exact List.Perm.refl _
  rw [if_neg g, if_neg g]
  exact ih (t + 1) (by omega) (by omega) L hL (by omega) hs
theorem fl1 (hc : Ok c) (m0 : 0 ≤ m) (m1 : m < 3600) (hi : i < c.length) (hne : ca c i = cb c i) : ∀ (e : Nat) (t : Int), t + e = 3 → -2 ≤ t → ∀ L : List Pt,
 ((∃ u, t ≤ u ∧ u ≤ 2 ∧ m + u * 3600 = ca c i) ∧ F25l1 c m (A c i, B c i) i t L = some (.inl ())) ∨ ((∀ u, t ≤ u → u ≤ 2 → m + u * 3600 ≠ ca c i) ∧ F25l1 c m (A c i, B c i) i t L = some (.inr L)) := by
 intro e
 have en := hc.ends hi
 have r := hc.rng i hi
 induction e with
 | zero => intro t ht t0 L; right; rw [F25l1, if_neg (by simp; omega)]; exact ⟨fun u a b => by omega, rfl⟩
 | succ e ih =>
  intro t ht t0 L
  have hn : -7200 ≤ m + t * 3600 ∧ m + t * 3600 < 10800 := by omega
  rw [F25l1, if_pos (by simp; omega), w64_in (x := t * 3600) (by omega) (by omega), w64_in (x := m + t * 3600) (by omega) (by omega), w64_in (x := t + 1) (by omega) (by omega)]
  have e0 : w64 (w64 (m + t * 3600 - (A c i).1) - (A c i).2) = m + t * 3600 - ca c i := by
   rw [w64_in (x := m + t * 3600 - (A c i).1) (by omega) (by omega), w64_in (by omega) (by omega)]
   unfold ca
   omega
  simp only [Option.bind_eq_bind]
  rw [e0, F61_eq hc hi]
  simp only [Option.bind_some]
  rw [if_pos (by simp; omega)]
  by_cases g : m + t * 3600 = ca c i
  · rw [if_pos (by simp; omega)]
    exact .inl ⟨⟨t, by omega, by omega, g⟩, rfl⟩
  rw [if_neg (by simp; omega)]
  rcases ih (t + 1) (by omega) (by omega) L with ⟨⟨u, a, b, h⟩, f⟩ | ⟨h, f⟩
  · exact .inl ⟨⟨u, by omega, b, h⟩, f⟩
  refine .inr ⟨fun u a b => ?_, f⟩
  by_cases hu : u = t
  · rw [hu]; exact g
  exact h u (by omega) b
theorem flat_iff (hc : Ok c) (m0 : 0 ≤ m) (m1 : m < 3600) (hi : i < c.length) (hne : ca c i = cb c i) : Flat c m i ↔ ∃ u, -2 ≤ u ∧ u ≤ 2 ∧ m + u * 3600 = ca c i := by
 have en := hc.ends hi
 unfold Flat
 constructor
 · rintro ⟨_, h⟩
   exact ⟨(ca c i - m) / 3600, by omega, by omega, by omega⟩
 rintro ⟨u, _, _, h⟩
 exact ⟨hne, by omega⟩
theorem rl0 (hc : Ok c) (m0 : 0 ≤ m) (m1 : m < 3600) : ∀ (d v : Nat), v + d = c.length → ∀ L : List Rat, (∀ a ∈ L, S36 a) → L.length ≤ 2 * v → (L.Pairwise fun a b => ¬ b < a) →
 ((∃ i, v ≤ i ∧ i < c.length ∧ Flat c m i) ∧ F25l0 c m (L.map fr) v = some (.inl ())) ∨ ((∀ i, v ≤ i → i < c.length → ¬ Flat c m i) ∧ ∃ S, F25l0 c m (L.map fr) v = some (.inr (S.map fr)) ∧ Set_ S (L ++ als c m d v)) := by
 have hcl := hc.le
 intro d
 induction d with
 | zero => intro v hd L hL hl hs; right; rw [F25l0, if_neg (by simp; omega)]; exact ⟨fun i a b => by omega, L, rfl, by simp [als, Set_, hs]⟩
 | succ d ih =>
  intro v hd L hL hl hs
  have hi : v < c.length := by omega
  rw [F25l0, if_pos (by simp; omega), F66_eq hc hi]
  simp only [Option.bind_eq_bind, Option.bind_some]
  rw [als]
  by_cases hne : ca c v = cb c v
  · rw [sol_none hne, List.map_nil, List.nil_append]
    rcases fl1 hc m0 m1 hi hne 5 (-2) (by decide) (by decide) (L.map fr) with ⟨h, f⟩ | ⟨h, f⟩
    · rw [f]
      exact .inl ⟨⟨v, Nat.le_refl _, hi, (flat_iff hc m0 m1 hi hne).2 h⟩, rfl⟩
    rw [f]
    simp only [Option.bind_some]
    rw [w64_up (by omega)]
    rcases ih (v + 1) (by omega) L hL (by omega) hs with ⟨⟨i, a, b, g⟩, k⟩ | ⟨g, k⟩
    · exact .inl ⟨⟨i, by omega, b, g⟩, k⟩
    refine .inr ⟨fun i a b hf => ?_, k⟩
    by_cases ei : i = v
    · subst ei
      obtain ⟨u, a1, a2, a3⟩ := (flat_iff hc m0 m1 hi hne).1 hf
      exact h u a1 a2 a3
    exact g i (by omega) b hf
  obtain ⟨S, f, ⟨p, s⟩, q⟩ := rl1 hc m0 m1 hi hne 5 (-2) (by decide) (by decide) L hL (by omega) hs
  rw [rem_sol] at p
  have hsl := sol_len hc hi m0 m1
  rw [f]
  simp only [Option.bind_some]
  rw [w64_up (by omega)]
  rcases ih (v + 1) (by omega) S q (by rw [p.length_eq, List.length_append, List.length_map]; omega) s with ⟨⟨i, a, b, g⟩, k⟩ | ⟨g, S2, k, p2, s2⟩
  · exact .inl ⟨⟨i, by omega, b, g⟩, k⟩
  refine .inr ⟨fun i a b hf => ?_, S2, k, p2.trans ?_, s2⟩
  · by_cases ei : i = v
    · subst ei; exact hne hf.1
    exact g i (by omega) b hf
  rw [← List.append_assoc]
  exact p.append_right _
theorem als_len (hc : Ok c) (m0 : 0 ≤ m) (m1 : m < 3600) : ∀ d v : Nat, v + d ≤ c.length → (als c m d v).length ≤ 2 * d := by
 intro d
 induction d with
 | zero => intro v _; exact Nat.le_refl _
 | succ d ih =>
  intro v hv
  have := sol_len (i := v) hc (by omega) m0 m1
  have := ih (v + 1) (by omega)
  rw [als, List.length_append, List.length_map]
  omega
theorem sets_eq {S T L : List Rat} (h : Set_ S L) (g : Set_ T L) : S = T := by
 refine List.Perm.eq_of_pairwise (le := fun a b => ¬ b < a) (fun a b _ _ h1 h2 => Rat.le_antisymm (Rat.not_lt.1 h1) (Rat.not_lt.1 h2)) h.2 g.2 (h.1.trans g.1.symm)
theorem both_courses (hc : Ok c) (m0 : 0 ≤ m) (m1 : m < 3600) : ∃ S e, F24 c m = some (S, e) ∧ F25 c m = some (S, e) ∧ S.length ≤ 1000 := by
 have hcl := hc.le
 have f25 : F25 c m = (F25l0 c m [] 0).bind fun r => match r with | .inl _ => some ([], (16 : Int)) | .inr o => some (o, (0 : Int)) := by
  unfold F25
  rw [F23_eq (by omega), ck_of hc]
  simp only [Option.bind_eq_bind, Option.bind_some]
  rw [F57_eq, decide_eq_true ⟨m0, m1⟩]
  rfl
 rcases rl0 hc m0 m1 c.length 0 (by omega) [] (fun a ha => by cases ha) (Nat.zero_le _) List.Pairwise.nil with ⟨⟨i, _, b, g⟩, f⟩ | ⟨g, S, f, p⟩
 · refine ⟨[], 16, F24_flat hc m0 m1 ⟨i, b, g⟩, ?_, by simp⟩
   have f' : F25l0 c m [] 0 = some (.inl ()) := f
   rw [f25, f']
   rfl
 have hl := als_len hc m0 m1 c.length 0 (by omega)
 obtain ⟨T, f24, _, p1, p2⟩ := F24_eq hc m0 m1 (fun i b => g i (Nat.zero_le _) b) (by omega)
 have e : T = S := sets_eq (L := als c m c.length 0) ⟨p1, p2.imp fun h => Rat.not_lt.2 h⟩ p
 subst e
 have f' : F25l0 c m [] 0 = some (.inr (T.map fr)) := f
 refine ⟨T.map fr, 0, f24, ?_, by rw [List.length_map, p1.length_eq]; omega⟩
 rw [f25, f']
 rfl
theorem F58_sAt (hc : Ok c) (hi : i < c.length) (h : Hit (ca c i) (cb c i) n) : F58 c (fr (sAt c i n)).1 (fr (sAt c i n)).2 = some (fr ((n : Rat) - place c i n)) := by
 obtain ⟨q1, q2, q3⟩ := sAt_rng hc hi h
 obtain ⟨k, hl, e⟩ := F58_eq hc (M := 6000) (by omega) (by omega) q1 q2
 rw [norm_sAt hc hi h] at hl e
 have := Lies.uniq hc hl (place_lies hc hi h)
 subst this
 rw [e, dev_place hc hi h]
theorem both_allowances (hc : Ok c) (m0 : 0 ≤ m) (m1 : m < 3600) : ∃ r, F26 c m = some r ∧ F27 c m = some r := by
 have hcl := hc.le
 by_cases hs : Sound c
 · obtain ⟨i, n, hi, ht, hh, f24, f26⟩ := sound_all hc hs m0 m1
   obtain ⟨S, e, g24, g25, _⟩ := both_courses hc m0 m1
   rw [f24] at g24
   cases g24
   refine ⟨_, f26, ?_⟩
   unfold F27
   rw [F20_eq (by omega), ck_of hc, if_pos rfl, fol_none hs _ _ (by omega)]
   simp only [Option.bind_eq_bind, Option.bind_some]
   rw [F57_eq, decide_eq_true ⟨m0, m1⟩, g25]
   simp only [Option.bind_some, beq_self_eq_true, if_true, Bool.not_true, Bool.false_eq_true, if_false, bne_self_eq_false, List.length_nil]
   show (F58 c (fr (sAt c i n)).1 (fr (sAt c i n)).2).bind (fun r23 => some ((r23.1, r23.2), (0 : Int))) = _
   rw [F58_sAt hc hi hh]
   rfl
 refine ⟨_, F26_fold hc hs m0 m1, ?_⟩
 have hf : fol c c.length 0 ≠ [] := by
  refine fol_some _ _ (Classical.byContradiction fun g => hs fun i hi => ?_)
  refine Classical.byContradiction fun k => g ⟨i, Nat.zero_le _, by omega, by omega⟩
 have hp : 0 < (fol c c.length 0).length := List.length_pos_iff.2 hf
 unfold F27
 rw [F20_eq (by omega), ck_of hc, if_pos rfl]
 simp only [Option.bind_eq_bind, Option.bind_some]
 rw [F57_eq, decide_eq_true ⟨m0, m1⟩]
 simp only [Option.bind_some, beq_self_eq_true, if_true, Bool.not_true, Bool.false_eq_true, if_false]
 rw [decide_eq_true (by omega)]
 rfl
end
end Go.Proofs.Ythpfffijnkmdgaa.plain
namespace Go.Proofs.Ythpfffijnkmdgaa
open Go Go.Cl plain
theorem plain (p0 : List (Int × Int)) (p1 : Int) (wp0 : ∀ x ∈ p0, (Lit.int .i64 x.1).wf = true ∧ (Lit.int .i64 x.2).wf = true) (wp1 : (Lit.int .i64 p1).wf = true) : F4 p0 p1 = some true := by
 unfold F4
 by_cases h : (p0.length : Int) > 60
 · rw [if_pos (by simpa using h)]; rfl
 rw [if_neg (by simpa using h)]
 have hl : p0.length ≤ 1000 := by omega
 have fin : ∀ (S : List Pt) (e : Int) (r : (Int × Int) × Int), S.length ≤ 1000 → F24 p0 p1 = some (S, e) → F25 p0 p1 = some (S, e) → F26 p0 p1 = some r → F27 p0 p1 = some r → (F16 p0 >>= fun r4 => F24 p0 p1 >>= fun r6 => F25 r4 p1 >>= fun r8 => F26 p0 p1 >>= fun r10 => F27 r4 p1 >>= fun r12 => F28 r6.1 r8.1 >>= fun r14 =>
  ((if r14 then if r6.2 == r8.2 then if ((r10.1.1 == r12.1.1) && ((r10.1.2 == r12.1.2) && true)) then if r10.2 == r12.2 then F15 >>= fun r19 => some (r19) else some (false) else some (false) else some (false) else some (false) : Option Bool) >>= fun m21 => some m21)) = some true := by
  intro S e r hS f1 f2 f3 f4
  simp only [Option.bind_eq_bind]
  rw [F16_eq hl, Option.bind_some, f1, Option.bind_some, f2, Option.bind_some, f3, Option.bind_some, f4, Option.bind_some, F28_eq hS, Option.bind_some]
  simp only [beq_self_eq_true, Bool.and_self, if_true]
  rfl
 by_cases hk : ck p0 = 0
 · have hc := ck_ok hk
   by_cases hm : 0 ≤ p1 ∧ p1 < 3600
   · obtain ⟨S, e, f1, f2, hS⟩ := both_courses hc hm.1 hm.2
     obtain ⟨r, f3, f4⟩ := both_allowances hc hm.1 hm.2
     exact fin S e r hS f1 f2 f3 f4
   refine fin [] 1 ((0, 0), 1) (by simp) ?_ ?_ ?_ ?_
   · unfold F24
     rw [F22_eq hl, hk]
     simp only [Option.bind_eq_bind, Option.bind_some]
     rw [F53_eq, decide_eq_false hm]
     rfl
   · unfold F25
     rw [F23_eq hl, hk]
     simp only [Option.bind_eq_bind, Option.bind_some]
     rw [F57_eq, decide_eq_false hm]
     rfl
   · unfold F26
     rw [F22_eq hl, hk]
     simp only [Option.bind_eq_bind, Option.bind_some]
     rw [F53_eq, decide_eq_false hm]
     rfl
   unfold F27
   rw [F20_eq hl, hk]
   simp only [Option.bind_eq_bind, Option.bind_some]
   rw [F57_eq, decide_eq_false hm]
   rfl
 refine fin [] (ck p0) ((0, 0), ck p0) (by simp) ?_ ?_ ?_ ?_
 · unfold F24
   rw [F22_eq hl]
   simp only [Option.bind_eq_bind, Option.bind_some]
   rw [if_pos (by simpa using hk)]
 · unfold F25
   rw [F23_eq hl]
   simp only [Option.bind_eq_bind, Option.bind_some]
   rw [if_neg (by simpa using hk)]
   simp only [Option.bind_some, Bool.false_eq_true, if_false]
   rw [if_pos (by simpa using hk)]
 · unfold F26
   rw [F22_eq hl]
   simp only [Option.bind_eq_bind, Option.bind_some]
   rw [if_pos (by simpa using hk)]
 unfold F27
 rw [F20_eq hl, if_neg hk]
 simp only [Option.bind_eq_bind, Option.bind_some]
 rw [if_neg (by simpa using hk)]
 simp only [Option.bind_some, Bool.false_eq_true, if_false]
 rw [if_neg (by simpa using hk)]
 simp only [Option.bind_some, Bool.false_eq_true, if_false]
 rw [if_pos (by simpa using hk)]
end Go.Proofs.Ythpfffijnkmdgaa
