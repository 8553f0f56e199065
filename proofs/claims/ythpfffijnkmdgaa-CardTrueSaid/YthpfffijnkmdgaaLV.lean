/- What is known of a card: both ends of its spans; when it is sure. -/
import Derived.Test.YthpfffijnkmdgaaLR
import Derived.Test.YthpfffijnkmdgaaCW
set_option linter.unusedVariables false
set_option linter.unusedSimpArgs false
set_option maxRecDepth 100000
namespace Go.Proofs.Ythpfffijnkmdgaa.plain
open Go Go.Cl
abbrev Mks := List (Int × (Int × Int))
def lows (k : Mks) : Card := k.map fun x => (x.1, x.2.1)
def highs (k : Mks) : Card := k.map fun x => (x.1, x.2.2)
section
variable {k : Mks} {l h c : Card} {m : Int} {i : Nat}
theorem lows_len : (lows k).length = k.length := List.length_map _
theorem highs_len : (highs k).length = k.length := List.length_map _
theorem F80_eq (hk : k.length ≤ 1000) : F80 k = some (lows k) := by
 have go : ∀ (d v : Nat) (out : Card), v + d = k.length → out.length ≤ v → F80l0 k out v = some (out ++ lows (k.drop v)) := by
  intro d
  induction d with
  | zero => intro v out hd ho; rw [F80l0, if_neg (by simp; omega), List.drop_eq_nil_of_le (by omega)]; simp [lows]
  | succ d ih =>
   intro v out hd ho
   have hlt : v < k.length := by omega
   have hdr : k.drop v = k[v] :: k.drop (v + 1) := List.drop_eq_getElem_cons hlt
   rw [F80l0, if_pos (by simp; omega), if_pos ⟨by omega, by omega⟩, w64_up (by omega)]
   simp only [Option.bind_eq_bind, Option.bind_some, show ((v : Int)).toNat = v from rfl, cons_get _ hlt]
   unfold F81
   rw [Option.bind_some, if_pos (by omega), ih (v + 1) _ (by omega) (by simp; omega), hdr, List.append_assoc]
   rfl
 have f : F80l0 k [] 0 = some ([] ++ lows (k.drop 0)) := go k.length 0 [] (by omega) (Nat.zero_le _)
 unfold F80
 rw [f]
 rfl
theorem F80k1_eq (hk : k.length ≤ 1000) : F80k1 k = some (highs k) := by
 have go : ∀ (d v : Nat) (out : Card), v + d = k.length → out.length ≤ v → F80k1l0 k out v = some (out ++ highs (k.drop v)) := by
  intro d
  induction d with
  | zero => intro v out hd ho; rw [F80k1l0, if_neg (by simp; omega), List.drop_eq_nil_of_le (by omega)]; simp [highs]
  | succ d ih =>
   intro v out hd ho
   have hlt : v < k.length := by omega
   have hdr : k.drop v = k[v] :: k.drop (v + 1) := List.drop_eq_getElem_cons hlt
   rw [F80k1l0, if_pos (by simp; omega), if_pos ⟨by omega, by omega⟩, w64_up (by omega)]
   simp only [Option.bind_eq_bind, Option.bind_some, show ((v : Int)).toNat = v from rfl, cons_get _ hlt]
   unfold F82
   rw [Option.bind_some, if_pos (by omega), ih (v + 1) _ (by omega) (by simp; omega), hdr, List.append_assoc]
   rfl
 have f : F80k1l0 k [] 0 = some ([] ++ highs (k.drop 0)) := go k.length 0 [] (by omega) (Nat.zero_le _)
 unfold F80k1
 rw [f]
 rfl
structure Ends (l h : Card) : Prop where
 okl : Ok l
 okh : Ok h
 len : h.length = l.length
 hd : ∀ i, i < l.length → (A h i).1 = (A l i).1
 dv : ∀ i, i < l.length → (A l i).2 ≤ (A h i).2
theorem Ends.bb (e : Ends l h) (hi : i < l.length) : (B h i).1 = (B l i).1 ∧ (B l i).2 ≤ (B h i).2 := by
 have p := e.okl.pos
 have a := e.hd 0 p
 have b := e.dv 0 p
 unfold B
 rw [e.len]
 split
 · exact ⟨by rw [a], b⟩
 exact ⟨e.hd _ (by omega), e.dv _ (by omega)⟩
theorem Ends.cc (e : Ends l h) (hi : i < l.length) : ca l i ≤ ca h i ∧ cb l i ≤ cb h i := by
 have a := e.hd i hi
 have b := e.dv i hi
 have c := e.bb hi
 unfold ca cb
 omega
def Foldy (l h : Card) (i : Nat) : Prop := l.length ≠ 1 ∧ cb l i ≤ ca h i
theorem Ends.sound (e : Ends l h) (n : ∀ i, i < l.length → ¬ Foldy l h i) : Sound l ∧ Sound h := by
 have go : ∀ i, i < l.length → ca l i < cb l i ∧ ca h i < cb h i := by
  intro i hi
  have c := e.cc hi
  by_cases g : l.length = 1
  · have i0 : i = 0 := by omega
    subst i0
    have b1 : B l 0 = ((A l 0).1 + 3600, (A l 0).2) := by unfold B; rw [if_pos (by omega)]
    have b2 : B h 0 = ((A h 0).1 + 3600, (A h 0).2) := by unfold B; rw [if_pos (by rw [e.len]; omega)]
    unfold ca cb
    rw [b1, b2]
    dsimp only
    omega
  have := n i hi
  unfold Foldy at this
  have : ¬ cb l i ≤ ca h i := fun x => this ⟨g, x⟩
  omega
 exact ⟨fun i hi => (go i hi).1, fun i hi => (go i (by rw [← e.len]; exact hi)).2⟩
theorem F78_eq (hk : k.length ≤ 1000) (e : Ends (lows k) (highs k)) : ((∃ i, i < k.length ∧ Foldy (lows k) (highs k) i) ∧ F78 k = some true) ∨ ((∀ i, i < k.length → ¬ Foldy (lows k) (highs k) i) ∧ F78 k = some false) := by
 have ll := @lows_len k
 have hl := @highs_len k
 have go : ∀ (d v : Nat), v + d = k.length → ((∃ i, v ≤ i ∧ i < k.length ∧ Foldy (lows k) (highs k) i) ∧ F78l0 k (lows k) (highs k) v = some (.inl ())) ∨ ((∀ i, v ≤ i → i < k.length → ¬ Foldy (lows k) (highs k) i) ∧ F78l0 k (lows k) (highs k) v = some (.inr ())) := by
  intro d
  induction d with
  | zero => intro v hd; right; rw [F78l0, if_neg (by simp; omega)]; exact ⟨fun i a b => by omega, rfl⟩
  | succ d ih =>
   intro v hd
   have hlt : v < k.length := by omega
   have hv : v < (lows k).length := by omega
   have md : Int.tmod (w64 ((v : Int) + 1)) (k.length : Int) = (((v + 1) % k.length : Nat) : Int) := by rw [w64_up (by omega)]; rfl
   have mn := mod_next (c := lows k) hv
   rw [ll] at mn
   have r := e.okl.rng v hv
   have rh := e.okh.rng v (by omega)
   have r0 := e.okl.rng 0 e.okl.pos
   have sg := e.okl.seg hv
   have hdv := e.hd v hv
   have mlt : (v + 1) % k.length < k.length := Nat.mod_lt _ (by omega)
   have rj := e.okl.rng ((v + 1) % k.length) (by omega)
   have nx := next_snd (c := lows k) hv
   rw [ll] at nx
   have bb : (B (lows k) v).1 = (A (lows k) ((v + 1) % k.length)).1 + (if v + 1 = k.length then 3600 else 0) := by
    unfold B
    rw [ll, mn]
    split
    · rfl
    omega
   rw [F78l0, if_pos (by simp; omega), if_neg (by omega), md, ll, hl, if_pos ⟨by omega, by omega⟩, w64_up (by omega)]
   simp only [Option.bind_eq_bind, Option.bind_some, Int.toNat_natCast]
   rw [if_pos ⟨by omega, by omega⟩, show (lows k).getD ((v + 1) % k.length) (0, 0) = A (lows k) ((v + 1) % k.length) from rfl, show (lows k).getD v (0, 0) = A (lows k) v from rfl, show (highs k).getD v (0, 0) = A (highs k) v from rfl]
   have m60 : ((if decide ((((v + 1) % k.length : Nat) : Int) ≤ (v : Int)) = true then some (w64 (w64 ((A (lows k) ((v + 1) % k.length)).1 - (A (lows k) v).1) + 3600)) else some (w64 ((A (lows k) ((v + 1) % k.length)).1 - (A (lows k) v).1))) : Option Int) = some ((B (lows k) v).1 - (A (lows k) v).1) := by
    rw [bb, w64_in (x := (A (lows k) ((v + 1) % k.length)).1 - (A (lows k) v).1) (by omega) (by omega), w64_in (by omega) (by omega)]
    by_cases g : v + 1 = k.length
    · rw [if_pos g] at mn
      rw [if_pos (by simp [mn]), if_pos g]
      congr 1
      omega
    rw [if_neg g] at mn
    rw [if_neg (by simp [mn]; omega), if_neg g]
    congr 1
    omega
   rw [m60]
   simp only [Option.bind_some]
   rw [nx, w64_in (x := (B (lows k) v).1 - (A (lows k) v).1 + (B (lows k) v).2) (by omega) (by omega)]
   have m66 : ((if ((((v + 1) % k.length : Nat) : Int) != (v : Int)) = true then if (0 : Int) ≤ (v : Int) ∧ (v : Int) < (k.length : Int) then some (decide ((B (lows k) v).1 - (A (lows k) v).1 + (B (lows k) v).2 ≤ (A (highs k) v).2)) else none else some false) : Option Bool) = some (decide (k.length ≠ 1 ∧ cb (lows k) v ≤ ca (highs k) v)) := by
    by_cases g : k.length = 1
    · have e1 : (v + 1) % k.length = v := by rw [mn]; split <;> omega
      rw [e1, if_neg (by simp), decide_eq_false (by simp [g])]
    have e2 : (((v + 1) % k.length : Nat) : Int) ≠ (v : Int) := by rw [mn]; split <;> omega
    rw [if_pos (bne_iff_ne.2 e2), if_pos ⟨by omega, by omega⟩]
    congr 1
    rw [decide_eq_decide]
    unfold ca cb
    omega
   rw [m66]
   simp only [Option.bind_some, decide_eq_true_eq]
   by_cases g : k.length ≠ 1 ∧ cb (lows k) v ≤ ca (highs k) v
   · rw [if_pos g]
     exact .inl ⟨⟨v, Nat.le_refl _, hlt, by rw [ll]; exact g.1, g.2⟩, rfl⟩
   rw [if_neg g]
   rcases ih (v + 1) (by omega) with ⟨⟨i, a, b, f⟩, q⟩ | ⟨f, q⟩
   · exact .inl ⟨⟨i, by omega, b, f⟩, q⟩
   refine .inr ⟨fun i a b => ?_, q⟩
   by_cases t : i = v
   · subst t
     rintro ⟨x, y⟩
     exact g ⟨by rwa [ll] at x, y⟩
   exact f i (by omega) b
 unfold F78
 rw [F80_eq hk, F80k1_eq hk]
 simp only [Option.bind_eq_bind, Option.bind_some]
 rcases go k.length 0 (by omega) with ⟨⟨i, _, b, f⟩, q⟩ | ⟨f, q⟩
 · rw [show (0 : Int) = ((0 : Nat) : Int) from rfl, q]; exact .inl ⟨⟨i, b, f⟩, rfl⟩
 rw [show (0 : Int) = ((0 : Nat) : Int) from rfl, q]; exact .inr ⟨fun i b => f i (Nat.zero_le _) b, rfl⟩
theorem sound_two (hc : Ok c) (hs : Sound c) (m0 : 0 ≤ m) (m1 : m < 3600) : ∃ i n, i < c.length ∧ n ∈ tl m ∧ Hit (ca c i) (cb c i) n ∧ als c m c.length 0 = [sAt c i n] ∧ F26 c m = some (fr ((n : Rat) - place c i n), 0) ∧ F71 c m = some (fr ((n : Rat) - place c i n)) := by
 have hcl := hc.le
 obtain ⟨i, n, hi, ht, hh, ha⟩ := als_one hc hs m0 m1
 obtain ⟨S, f, g, p, _⟩ := F24_eq hc m0 m1 (not_flat hs) (by rw [ha]; exact Nat.le_of_ble_eq_true rfl)
 rw [ha] at p
 have hS : S = [sAt c i n] := List.perm_singleton.1 p
 subst hS
 have q : F71 c m = some (fr ((n : Rat) - place c i n)) := by
  unfold F71
  rw [g]
  rw [Option.bind_eq_bind, Option.bind_some]
  dsimp only
  rw [if_pos ⟨by decide, by simp⟩, show List.getD ([sAt c i n].map fr) (Int.toNat 0) (0, 0) = fr (sAt c i n) from rfl]
  rw [Option.bind_eq_bind, Option.bind_some]
  rw [F54_sAt hc hi hh]
  rfl
 refine ⟨i, n, hi, ht, hh, ha, ?_, q⟩
 unfold F26
 rw [F22_eq (by omega), ck_of hc]
 simp only [Option.bind_eq_bind, Option.bind_some, bne_self_eq_false, Bool.false_eq_true, if_false]
 rw [F53_eq, decide_eq_true ⟨m0, m1⟩]
 simp only [Option.bind_some, Bool.not_true, Bool.false_eq_true, if_false]
 rw [F60_eq hc, fol_none hs _ _ (by omega)]
 simp only [Option.bind_some]
 rw [if_neg (by simp), q]
 rfl
theorem F36_fold (hk : k.length ≤ 1000) (h : mk k = 0) (g : F78 k = some true) : F36 k = some 21 := by
 unfold F36
 rw [F63_eq hk, h, g]
 rfl
theorem F36_good (hk : k.length ≤ 1000) (h : mk k = 0) (g : F78 k = some false) : F36 k = some 0 := by
 unfold F36
 rw [F63_eq hk, h, g]
 rfl
theorem F34_fold (hk : k.length ≤ 1000) (h : mk k = 0) (n : 0 ≤ m ∧ m < 3600) (g : F78 k = some true) : F34 k m = some ((0, 0), (0, 0), 21) := by
 unfold F34
 rw [F63_eq hk, h, F53_eq, decide_eq_true n, g]
 rfl
theorem F34_good (hk : k.length ≤ 1000) (h : mk k = 0) (n : 0 ≤ m ∧ m < 3600) (g : F78 k = some false) {x y : Rat} (fl : F71 (lows k) m = some (fr x)) (fh : F71 (highs k) m = some (fr y)) : F34 k m = some (fr x, fr y, 0) := by
 unfold F34
 rw [F63_eq hk, h, F53_eq, decide_eq_true n, g, F80_eq hk, F80k1_eq hk]
 simp only [Option.bind_eq_bind, Option.bind_some, bne_self_eq_false, Bool.false_eq_true, if_false, Bool.not_true]
 unfold F79 F83
 rw [fl, fh]
 rfl
end
end Go.Proofs.Ythpfffijnkmdgaa.plain
