/- CardKnows: the plain law. -/
import Derived.Test.YthpfffijnkmdgaaLF6
import Derived.Test.YthpfffijnkmdgaaLV
set_option linter.unusedVariables false
set_option linter.unusedSimpArgs false
set_option maxRecDepth 100000
namespace Go.Proofs.Ythpfffijnkmdgaa.plain
open Go Go.Cl
section
variable {k : Mks} {l h c : Card} {m n : Int} {i : Nat} {x : Rat}
theorem F33_eq (hk : k.length ≤ 1000) : F33 k = some k := by
 have go : ∀ (d v : Nat) (out : Mks), v + d = k.length → out.length ≤ v → F33l0 k out v = some (out ++ k.drop v) := by
  intro d
  induction d with
  | zero => intro v out hd ho; rw [F33l0, if_neg (by simp; omega), List.drop_eq_nil_of_le (by omega), List.append_nil]
  | succ d ih =>
   intro v out hd ho
   have hlt : v < k.length := by omega
   have hdr : k.drop v = k[v] :: k.drop (v + 1) := List.drop_eq_getElem_cons hlt
   rw [F33l0, if_pos (by simp; omega), if_pos ⟨by omega, by omega⟩, w64_up (by omega)]
   simp only [Option.bind_eq_bind, Option.bind_some, show ((v : Int)).toNat = v from rfl, cons_get _ hlt]
   rw [if_pos (by omega), ih (v + 1) _ (by omega) (by simp; omega), hdr, List.append_assoc]
   rfl
 have f : F33l0 k [] 0 = some ([] ++ k.drop 0) := go k.length 0 [] (by omega) (Nat.zero_le _)
 unfold F33
 rw [f]
 rfl
theorem F86_lo (hk : k.length ≤ 1000) : F86 k false = some (lows k) := by
 have go : ∀ (d v : Nat) (out : Card), v + d = k.length → out.length ≤ v → F86l0 k false out v = some (out ++ lows (k.drop v)) := by
  intro d
  induction d with
  | zero => intro v out hd ho; rw [F86l0, if_neg (by simp; omega), List.drop_eq_nil_of_le (by omega)]; simp [lows]
  | succ d ih =>
   intro v out hd ho
   have hlt : v < k.length := by omega
   have hdr : k.drop v = k[v] :: k.drop (v + 1) := List.drop_eq_getElem_cons hlt
   rw [F86l0, if_pos (by simp; omega), if_pos ⟨by omega, by omega⟩, w64_up (by omega)]
   simp only [Option.bind_eq_bind, Option.bind_some, show ((v : Int)).toNat = v from rfl, cons_get _ hlt, Bool.false_eq_true, if_false]
   rw [if_pos (by omega), ih (v + 1) _ (by omega) (by simp; omega), hdr, List.append_assoc]
   rfl
 have f : F86l0 k false [] 0 = some ([] ++ lows (k.drop 0)) := go k.length 0 [] (by omega) (Nat.zero_le _)
 unfold F86
 rw [f]
 rfl
theorem F86_hi (hk : k.length ≤ 1000) : F86 k true = some (highs k) := by
 have go : ∀ (d v : Nat) (out : Card), v + d = k.length → out.length ≤ v → F86l0 k true out v = some (out ++ highs (k.drop v)) := by
  intro d
  induction d with
  | zero => intro v out hd ho; rw [F86l0, if_neg (by simp; omega), List.drop_eq_nil_of_le (by omega)]; simp [highs]
  | succ d ih =>
   intro v out hd ho
   have hlt : v < k.length := by omega
   have hdr : k.drop v = k[v] :: k.drop (v + 1) := List.drop_eq_getElem_cons hlt
   rw [F86l0, if_pos (by simp; omega), if_pos ⟨by omega, by omega⟩, w64_up (by omega)]
   simp only [Option.bind_eq_bind, Option.bind_some, show ((v : Int)).toNat = v from rfl, cons_get _ hlt, if_true]
   rw [if_pos (by omega), ih (v + 1) _ (by omega) (by simp; omega), hdr, List.append_assoc]
   rfl
 have f : F86l0 k true [] 0 = some ([] ++ highs (k.drop 0)) := go k.length 0 [] (by omega) (Nat.zero_le _)
 unfold F86
 rw [f]
 rfl
theorem F84_eq (hk : k.length ≤ 1000) : F84 k = some (mk k) := by
 have go : ∀ (d v : Nat) (last : Int), v + d = k.length → (v = 0 → last = -1) → (0 < v → last = (k.getD (v - 1) (0, 0, 0)).1) → (∃ e, F84l0 k v = some (.inl e) ∧ e = mkl last (k.drop v)) ∨ (F84l0 k v = some (.inr ()) ∧ mkl last (k.drop v) = 0) := by
  intro d
  induction d with
  | zero => intro v last hd _ _; right; rw [F84l0, if_neg (by simp; omega), List.drop_eq_nil_of_le (by omega)]; exact ⟨rfl, rfl⟩
  | succ d ih =>
   intro v last hd h0 h1
   have hlt : v < k.length := by omega
   have hdr : k.drop v = k[v] :: k.drop (v + 1) := List.drop_eq_getElem_cons hlt
   rw [F84l0, if_pos (by simp; omega), if_pos ⟨by omega, by omega⟩, w64_up (by omega)]
   simp only [Option.bind_eq_bind, Option.bind_some, show ((v : Int)).toNat = v from rfl]
   have hnx : ((k.getD ((v + 1) - 1) (0, 0, 0))) = k[v] := cons_get _ hlt
   rw [cons_get _ hlt, F57_eq, F64_eq, hdr, mkl]
   generalize k[v] = q at *
   simp only [Option.bind_some]
   have m1 : ((if (!decide (0 ≤ q.1 ∧ q.1 < 3600)) = true then some true else if (!decide (-900 ≤ q.2.1 ∧ q.2.1 ≤ q.2.2)) = true then some true else some (decide (q.2.2 > 900))) : Option Bool) = some (decide (¬ (0 ≤ q.1 ∧ q.1 < 3600) ∨ q.2.1 < -900 ∨ q.2.1 > q.2.2 ∨ q.2.2 > 900)) := by
    by_cases g : 0 ≤ q.1 ∧ q.1 < 3600
    · rw [if_neg (by simpa using g)]
      by_cases g2 : -900 ≤ q.2.1 ∧ q.2.1 ≤ q.2.2
      · rw [if_neg (by simpa using g2)]
        congr 1
        rw [decide_eq_decide]
        omega
      rw [if_pos (by rw [decide_eq_false g2]; rfl)]
      congr 1
      symm
      rw [decide_eq_true_eq]
      omega
    rw [if_pos (by rw [decide_eq_false g]; rfl), decide_eq_true (.inl g)]
   rw [m1]
   simp only [Option.bind_some, decide_eq_true_eq]
   by_cases g1 : ¬ (0 ≤ q.1 ∧ q.1 < 3600) ∨ q.2.1 < -900 ∨ q.2.1 > q.2.2 ∨ q.2.2 > 900
   · rw [if_pos g1, if_pos g1]; exact .inl ⟨1, rfl, rfl⟩
   rw [if_neg g1, if_neg g1]
   by_cases hv : v = 0
   · have hl := h0 hv
     subst hv
     have hz : ¬ ((0 : Nat) : Int) > 0 := by omega
     simp only [if_neg hz, Bool.false_eq_true, if_false, Option.bind_some]
     rw [if_neg (by omega), if_neg (by omega)]
     exact ih 1 _ (by omega) (fun h => by omega) (fun _ => by rw [hnx])
   have hl := h1 (by omega)
   have w0 : w64 ((v : Int) - 1) = ((v - 1 : Nat) : Int) := by rw [w64_in (by omega) (by omega)]; omega
   have hp0 : (v : Int) > 0 := by omega
   rw [w0]
   have cnd : (0 : Int) ≤ ((v - 1 : Nat) : Int) ∧ ((v - 1 : Nat) : Int) < (k.length : Int) := ⟨by omega, by omega⟩
   simp only [if_pos hp0, if_true, if_pos cnd, Option.bind_some, Int.toNat_natCast]
   have hl' : (List.getD k (v - 1) (0, 0, 0)).1 = last := hl.symm
   simp only [hl']
   by_cases g2 : q.1 = last
   · rw [if_pos (by simpa using g2), if_pos g2]; exact .inl ⟨7, rfl, rfl⟩
   rw [if_neg (by simpa using g2), if_neg g2]
   by_cases g3 : q.1 < last
   · rw [if_pos (by simpa using g3), if_pos g3]; exact .inl ⟨5, rfl, rfl⟩
   rw [if_neg (by simpa using g3), if_neg g3]
   exact ih (v + 1) _ (by omega) (fun h => by omega) (fun _ => by rw [hnx])
 unfold F84 mk
 by_cases h1 : k.length = 0
 · rw [if_pos (by simp [h1]), if_pos h1]
 rw [if_neg (by simpa using h1), if_neg h1]
 by_cases h2 : k.length > 36
 · rw [if_pos (by simp; omega), if_pos h2]
 rw [if_neg (by simp; omega), if_neg h2]
 have := go k.length 0 (-1) (by omega) (fun _ => rfl) (fun h => by omega)
 rw [List.drop_zero] at this
 rw [show (0 : Int) = ((0 : Nat) : Int) from rfl]
 rcases this with ⟨e, f, g⟩ | ⟨f, g⟩
 · rw [f, ← g]; rfl
 rw [f, g]; rfl
theorem F85_eq (hk : k.length ≤ 1000) (e : Ends (lows k) (highs k)) : ((∃ i, i < k.length ∧ Foldy (lows k) (highs k) i) → F85 k = some true) ∧ ((∀ i, i < k.length → ¬ Foldy (lows k) (highs k) i) → F85 k = some false) := by
 have ll := @lows_len k
 have hl := @highs_len k
 have go : ∀ (d v : Nat) (b : Bool), v + d = k.length → ((b = true ∨ ∃ i, v ≤ i ∧ i < k.length ∧ Foldy (lows k) (highs k) i) → F85l0 k (lows k) (highs k) b v = some true) ∧ (b = false → (∀ i, v ≤ i → i < k.length → ¬ Foldy (lows k) (highs k) i) → F85l0 k (lows k) (highs k) b v = some false) := by
  intro d
  induction d with
  | zero =>
   intro v b hd
   rw [F85l0, if_neg (by simp; omega)]
   refine ⟨fun g => ?_, fun g _ => by rw [g]; rfl⟩
   rcases g with g | ⟨i, a, b, _⟩
   · rw [g]; rfl
   omega
  | succ d ih =>
   intro v b hd
   have hlt : v < k.length := by omega
   have hv : v < (lows k).length := by omega
   rw [F85l0, if_pos (by simp; omega), w64_up (by omega)]
   simp only [Option.bind_eq_bind, Option.bind_some, decide_eq_true_eq]
   by_cases g : k.length = 1
   · rw [if_neg (by omega)]
     refine ⟨fun q => ?_, fun q _ => by rw [q]⟩
     rcases q with q | ⟨i, _, _, q, _⟩
     · rw [q]
     rw [ll] at q; exact absurd g q
   rw [if_pos (by omega), F66_eq e.okh (by omega), F66_eq e.okl hv]
   have r := e.okl.rng v hv
   have rh := e.okh.rng v (by omega)
   have sg := e.okl.seg hv
   have hdv := e.hd v hv
   simp only [Option.bind_some]
   rw [w64_in (x := (B (lows k) v).1 - (A (highs k) v).1) (by omega) (by omega), w64_in (x := (B (lows k) v).1 - (A (highs k) v).1 + (B (lows k) v).2) (by omega) (by omega), w64_in (x := (B (lows k) v).1 - (A (highs k) v).1 + (B (lows k) v).2 - (A (highs k) v).2) (by omega) (by omega)]
   have m30 : ((if b = true then some true else some (decide ((B (lows k) v).1 - (A (highs k) v).1 + (B (lows k) v).2 - (A (highs k) v).2 ≤ 0))) : Option Bool) = some (b || decide (cb (lows k) v ≤ ca (highs k) v)) := by
    cases b
    · rw [if_neg (by decide), Bool.false_or]
      congr 1
      rw [decide_eq_decide]
      unfold ca cb
      omega
    rfl
   rw [m30]
   simp only [Option.bind_some]
   obtain ⟨i1, i2⟩ := ih (v + 1) (b || decide (cb (lows k) v ≤ ca (highs k) v)) (by omega)
   refine ⟨fun q => i1 ?_, fun q f => i2 ?_ fun i a b => f i (by omega) b⟩
   · rcases q with q | ⟨i, a, b', f⟩
     · rw [q]; exact .inl rfl
     by_cases t : i = v
     · subst t
       refine .inl ?_
       rw [decide_eq_true f.2, Bool.or_true]
     exact .inr ⟨i, by omega, b', f⟩
   rw [q, Bool.false_or]
   refine decide_eq_false fun z => f v (Nat.le_refl _) hlt ⟨by rw [ll]; exact g, z⟩
 unfold F85
 rw [F86_lo hk, F86_hi hk]
 simp only [Option.bind_eq_bind, Option.bind_some]
 obtain ⟨g1, g2⟩ := go k.length 0 false (by omega)
 refine ⟨fun ⟨i, b, f⟩ => ?_, fun f => ?_⟩
 · rw [show (0 : Int) = ((0 : Nat) : Int) from rfl, g1 (.inr ⟨i, Nat.zero_le _, b, f⟩)]; rfl
 rw [show (0 : Int) = ((0 : Nat) : Int) from rfl, g2 rfl (fun i _ b => f i b)]; rfl
theorem F69_wrap (hd : x.den ≤ 6000) (h0 : 0 ≤ x) (h1 : x < ((7200 : Int) : Rat)) : F69 (fr x).1 (fr x).2 = some (fr (wrap x)) := by
 have hp := den_pos x
 have hn := Rat.num_nonneg.2 h0
 have h1' := lt_int.1 h1
 show F69 x.num x.den = _
 unfold F69
 rw [F69l0, if_neg (by simp; omega)]
 simp only [Option.bind_eq_bind, Option.bind_some]
 rw [F69l1, w64_in (x := 3600 * (x.den : Int)) (by omega) (by omega)]
 unfold wrap
 by_cases h : x < ((3600 : Int) : Rat)
 · have := lt_int.1 h
   rw [if_neg (by simp; omega), if_pos h]; rfl
 have h2 := int_le.1 (Rat.not_lt.1 h)
 obtain ⟨a1, a2⟩ := add_int x (-3600)
 rw [if_pos (by simp; omega), if_neg h, w64_in (by omega) (by omega), F69l1, w64_in (x := 3600 * (x.den : Int)) (by omega) (by omega), if_neg (by simp; omega)]
 unfold fr
 rw [a1, a2, Option.bind_some]
 congr 2
theorem F61_eq (hc : Ok c) (hi : i < c.length) : F61 c i = some (cb c i - ca c i) := by
 have r := hc.rng i hi
 have sg := hc.seg hi
 unfold F61
 rw [F66_eq hc hi]
 simp only [Option.bind_eq_bind, Option.bind_some]
 rw [w64_in (x := (B c i).1 - (A c i).1) (by omega) (by omega), w64_in (x := (B c i).1 - (A c i).1 + (B c i).2) (by omega) (by omega), w64_in (by omega) (by omega)]
 congr 1
 unfold ca cb
 omega
theorem rstep (hc : Ok c) (hs : Sound c) (m0 : 0 ≤ m) (m1 : m < 3600) (hi : i < c.length) {t : Int} (t0 : -2 ≤ t) (t1 : t ≤ 2) (L : List Rat) (hL : Hit (ca c i) (cb c i) (m + t * 3600) → L = []) :
 F25l1 c m (A c i, B c i) i t (L.map fr) = F25l1 c m (A c i, B c i) i (t + 1) ((if Hit (ca c i) (cb c i) (m + t * 3600) then L ++ [sAt c i (m + t * 3600)] else L).map fr) := by
 have hn : -7200 ≤ m + t * 3600 ∧ m + t * 3600 < 10800 := by omega
 have en := hc.ends hi
 have r := hc.rng i hi
 have sg := hc.seg hi
 have sd := hs i hi
 rw [F25l1, if_pos (by simpa using t1), w64_in (x := t * 3600) (by omega) (by omega), w64_in (x := m + t * 3600) (by omega) (by omega), w64_in (x := t + 1) (by omega) (by omega)]
 generalize hnn : m + t * 3600 = n at *
 have e0 : w64 (w64 (n - (A c i).1) - (A c i).2) = n - ca c i := by
  rw [w64_in (x := n - (A c i).1) (by omega) (by omega), w64_in (by omega) (by omega)]
  unfold ca
  omega
 simp only [Option.bind_eq_bind]
 rw [e0, F61_eq hc hi]
 simp only [Option.bind_some]
 have m9 : ((n - ca c i) * ((B c i).1 - (A c i).1)).natAbs ≤ 11700 * 3600 := by rw [Int.natAbs_mul]; exact Nat.mul_le_mul (by omega) (by omega)
 rw [if_neg (by simp; omega), w64_in (x := (B c i).1 - (A c i).1) (by omega) (by omega), w64_in (x := (n - ca c i) * ((B c i).1 - (A c i).1)) (by omega) (by omega), F67_eq ⟨by omega, by omega⟩ ⟨by omega, by omega⟩, F89_eq ⟨by omega, by omega⟩ ⟨by omega, by omega⟩ (by omega), show Rat.divInt ((n - ca c i) * ((B c i).1 - (A c i).1)) (cb c i - ca c i) = part c i n from rfl]
 simp only [Option.bind_some]
 have hd0 : 0 < cb c i - ca c i := by omega
 have hL0 : 0 < (B c i).1 - (A c i).1 := by omega
 have pn : (part c i n).num.natAbs ≤ 11700 * 3600 := by
  unfold part
  rw [Rat.num_divInt, Int.sign_eq_one_of_pos hd0, Int.one_mul]
  exact Nat.le_trans (Int.natAbs_ediv_le_natAbs _ _) m9
 have pd : (part c i n).den ≤ 5400 := by
  unfold part
  rw [Rat.den_divInt]
  split
  · omega
  exact Nat.le_trans (Nat.div_le_self _ _) (by omega)
 have iff1 : Hit (ca c i) (cb c i) n ↔ 0 ≤ part c i n ∧ part c i n < (((B c i).1 - (A c i).1 : Int) : Rat) := by
  refine ⟨fun h => part_rng hc hi h, fun ⟨a, b⟩ => .inl ?_⟩
  unfold part at a b
  have a' : ((0 : Int) : Rat) ≤ Rat.divInt ((n - ca c i) * ((B c i).1 - (A c i).1)) (cb c i - ca c i) := a
  rw [le_divInt hd0, Int.zero_mul] at a'
  rw [divInt_lt hd0, Int.mul_comm] at b
  have b2 := Int.lt_of_mul_lt_mul_left b (by omega)
  refine ⟨?_, by omega⟩
  refine Int.not_lt.1 fun z => ?_
  have := Int.mul_neg_of_neg_of_pos (show n - ca c i < 0 by omega) hL0
  omega
 have F59e : ∀ p, F59 p = some (p, 1) := fun p => rfl
 have m15 : ((if decide ((fr (part c i n)).1 < 0) = true then some true else (F59 ((B c i).1 - (A c i).1)).bind fun r711 => (F68 (fr (part c i n)).1 (fr (part c i n)).2 r711.1 r711.2).bind fun r713 => some (!r713)) : Option Bool) = some (!decide (Hit (ca c i) (cb c i) n)) := by
  have fs := F68_eq (x := part c i n) (M := 5400) (N := 11700 * 3600) ((B c i).1 - (A c i).1) ⟨pd, by omega⟩ (by omega) (by omega) (by omega)
  by_cases g : 0 ≤ part c i n
  · have g' := Rat.num_nonneg.2 g
    rw [decide_eq_false (show ¬ (fr (part c i n)).1 < 0 by show ¬ (part c i n).num < 0; omega), if_neg (by decide), F59e]
    simp only [Option.bind_some]
    show (F68 (part c i n).num (part c i n).den ((B c i).1 - (A c i).1) 1).bind _ = _
    rw [fs, Option.bind_some]
    congr 2
    rw [decide_eq_decide, iff1]
    exact ⟨fun h => ⟨g, h⟩, fun h => h.2⟩
  have g' : ¬ 0 ≤ (part c i n).num := fun z => g (Rat.num_nonneg.1 z)
  rw [decide_eq_true (show (fr (part c i n)).1 < 0 by show (part c i n).num < 0; omega), if_pos rfl, decide_eq_false (fun z => g (iff1.1 z).1)]
  rfl
 rw [m15]
 simp only [Option.bind_some]
 by_cases g : Hit (ca c i) (cb c i) n
 · rw [decide_eq_true g, if_neg (by decide), if_pos g, hL g, F59e]
   simp only [Option.bind_some]
   have f70 : F70 (A c i).1 1 (fr (part c i n)).1 (fr (part c i n)).2 = some (fr (((A c i).1 : Rat) + part c i n)) := by
    refine F70_fr (x := ((A c i).1 : Rat)) (y := part c i n) ?_ ?_ ?_
    · exact b62_two 3600 5400 (by show (A c i).1.natAbs ≤ 3600; omega) (by omega) (by decide)
    · exact b62_two (11700 * 3600) 1 (by omega) (by show ((1 : Nat) : Int).natAbs ≤ 1; decide) (by decide)
    exact b62 1 5400 (by show ((1 : Nat) : Int).natAbs ≤ 1; decide) (by omega) (by decide)
   rw [f70, Option.bind_some, Rat.add_comm]
   obtain ⟨q1, q2, q3, q4⟩ := place_rng hc hi g
   rw [F69_wrap (by rw [(add_int _ _).2]; omega) q1 q4]
   simp only [Option.bind_some, List.map_nil, List.nil_append]
   rw [if_pos (by simp)]
   have wz : w64 ((List.length [((fr (wrap (part c i n + ((A c i).1 : Rat)))).1, (fr (wrap (part c i n + ((A c i).1 : Rat)))).2)] : Int) - 1) = 0 := by
    rw [w64_in (by simp) (by simp)]; simp
   rw [wz, F25l2, if_neg (by decide)]
   rfl
 rw [decide_eq_false g, if_pos (by decide), if_neg g]
def rem (c : Card) (m : Int) (i : Nat) : Nat → Int → List Int
 | 0, _ => []
 | e + 1, t => if Hit (ca c i) (cb c i) (m + t * 3600) then (m + t * 3600) :: rem c m i e (t + 1) else rem c m i e (t + 1)
theorem rem_sol : rem c m i 5 (-2) = sol c m i := by
 have e1 : m + (-2) * 3600 = m - 7200 := by omega
 have e2 : m + (-2 + 1) * 3600 = m - 3600 := by omega
 have e3 : m + (-2 + 1 + 1) * 3600 = m := by omega
 have e4 : m + (-2 + 1 + 1 + 1) * 3600 = m + 3600 := by omega
 have e5 : m + (-2 + 1 + 1 + 1 + 1) * 3600 = m + 7200 := by omega
 unfold sol tl
 simp only [rem, e1, e2, e3, e4, e5, List.filter_cons, List.filter_nil, decide_eq_true_eq]
theorem rl1 (hc : Ok c) (hs : Sound c) (m0 : 0 ≤ m) (m1 : m < 3600) (hi : i < c.length) : ∀ (e : Nat) (t : Int), t + e = 3 → -2 ≤ t → ∀ L : List Rat, L.length + (rem c m i e t).length ≤ 1 → F25l1 c m (A c i, B c i) i t (L.map fr) = some (.inr ((L ++ (rem c m i e t).map (sAt c i)).map fr)) := by
 intro e
 induction e with
 | zero => intro t ht t0 L hL; rw [F25l1, if_neg (by simp; omega)]; simp [rem]
 | succ e ih =>
  intro t ht t0 L hL
  rw [rem] at hL ⊢
  rw [rstep hc hs m0 m1 hi t0 (by omega) L (fun g => by rw [if_pos g, List.length_cons] at hL; exact List.eq_nil_of_length_eq_zero (by omega))]
  by_cases g : Hit (ca c i) (cb c i) (m + t * 3600)
  · rw [if_pos g] at hL ⊢
    rw [if_pos g, ih (t + 1) (by omega) (by omega) _ (by rw [List.length_append, List.length_singleton]; rw [List.length_cons] at hL; omega)]
    simp
  rw [if_neg g] at hL ⊢
  rw [if_neg g, ih (t + 1) (by omega) (by omega) _ hL]
theorem rl0 (hc : Ok c) (hs : Sound c) (m0 : 0 ≤ m) (m1 : m < 3600) : ∀ (d v : Nat), v + d = c.length → ∀ L : List Rat, L.length + (als c m d v).length ≤ 1 → F25l0 c m (L.map fr) v = some (.inr ((L ++ als c m d v).map fr)) := by
 have hcl := hc.le
 intro d
 induction d with
 | zero => intro v hd L hL; rw [F25l0, if_neg (by simp; omega)]; simp [als]
 | succ d ih =>
  intro v hd L hL
  have hi : v < c.length := by omega
  rw [als, List.length_append, List.length_map] at hL
  rw [F25l0, if_pos (by simp; omega), F66_eq hc hi]
  simp only [Option.bind_eq_bind, Option.bind_some]
  have f := rl1 hc hs m0 m1 hi 5 (-2) (by decide) (by decide) L (by rw [rem_sol]; omega)
  rw [rem_sol] at f
  rw [f]
  simp only [Option.bind_some]
  rw [w64_up (by omega), ih (v + 1) (by omega) _ (by rw [List.length_append, List.length_map]; omega), als, List.append_assoc]
theorem F25_sound (hc : Ok c) (hs : Sound c) (m0 : 0 ≤ m) (m1 : m < 3600) (ha : als c m c.length 0 = [sAt c i n]) : F25 c m = some ([fr (sAt c i n)], 0) := by
 have hcl := hc.le
 unfold F25
 rw [F23_eq (by omega), ck_of hc]
 simp only [Option.bind_eq_bind, Option.bind_some]
 rw [F57_eq, decide_eq_true ⟨m0, m1⟩]
 have f := rl0 hc hs m0 m1 c.length 0 (by omega) [] (by rw [ha]; simp)
 rw [ha] at f
 have f' : F25l0 c m [] 0 = some (.inr [fr (sAt c i n)]) := f
 rw [f']
 rfl
theorem F58_sAt (hc : Ok c) (hi : i < c.length) (h : Hit (ca c i) (cb c i) n) : F58 c (fr (sAt c i n)).1 (fr (sAt c i n)).2 = some (fr ((n : Rat) - place c i n)) := by
 obtain ⟨q1, q2, q3⟩ := sAt_rng hc hi h
 obtain ⟨k, hl, e⟩ := F58_eq hc (M := 6000) (by omega) (by omega) q1 q2
 rw [norm_sAt hc hi h] at hl e
 have := Lies.uniq hc hl (place_lies hc hi h)
 subst this
 rw [e, dev_place hc hi h]
theorem F27_sound (hc : Ok c) (hs : Sound c) (m0 : 0 ≤ m) (m1 : m < 3600) : ∃ x : Rat, F27 c m = some (fr x, 0) ∧ F71 c m = some (fr x) := by
 have hcl := hc.le
 obtain ⟨i, n, hi, ht, hh, ha, _, f⟩ := sound_two hc hs m0 m1
 refine ⟨_, ?_, f⟩
 unfold F27
 rw [F20_eq (by omega), ck_of hc, if_pos rfl, fol_none hs _ _ (by omega)]
 simp only [Option.bind_eq_bind, Option.bind_some]
 rw [F57_eq, decide_eq_true ⟨m0, m1⟩, F25_sound hc hs m0 m1 ha]
 simp only [Option.bind_some, beq_self_eq_true, if_true, Bool.not_true, Bool.false_eq_true, if_false, bne_self_eq_false, List.length_nil]
 show (F58 c (fr (sAt c i n)).1 (fr (sAt c i n)).2).bind (fun r23 => some ((r23.1, r23.2), (0 : Int))) = _
 rw [F58_sAt hc hi hh]
 rfl
theorem both_known (hk : k.length ≤ 1000) (m : Int) : (∃ r, F34 k m = some r ∧ F35 k m = some r) ∧ ∃ e, F36 k = some e ∧ F37 k = some e := by
 by_cases h : mk k = 0
 · have e := mk_ends h
   have f85 := F85_eq hk e
   rcases F78_eq hk e with ⟨g, q⟩ | ⟨g, q⟩
   · have f := f85.1 g
     refine ⟨?_, 21, F36_fold hk h q, ?_⟩
     · by_cases n : 0 ≤ m ∧ m < 3600
       · refine ⟨_, F34_fold hk h n q, ?_⟩
         unfold F35
         rw [F84_eq hk, h]
         simp only [Option.bind_eq_bind, Option.bind_some]
         rw [F57_eq, decide_eq_true n, f]
         rfl
       refine ⟨_, F34_range hk h n, ?_⟩
       unfold F35
       rw [F84_eq hk, h]
       simp only [Option.bind_eq_bind, Option.bind_some]
       rw [F57_eq, decide_eq_false n]
       rfl
     unfold F37
     rw [F84_eq hk, h, f]
     rfl
   have f := f85.2 g
   obtain ⟨s1, s2⟩ := e.sound (fun i hi => g i (by rwa [lows_len] at hi))
   refine ⟨?_, 0, F36_good hk h q, ?_⟩
   · by_cases n : 0 ≤ m ∧ m < 3600
     · obtain ⟨x, x1, x2⟩ := F27_sound e.okl s1 n.1 n.2
       obtain ⟨y, y1, y2⟩ := F27_sound e.okh s2 n.1 n.2
       refine ⟨_, F34_good hk h n q x2 y2, ?_⟩
       unfold F35
       rw [F84_eq hk, h]
       simp only [Option.bind_eq_bind, Option.bind_some]
       rw [F57_eq, decide_eq_true n, f, F86_lo hk, F86_hi hk]
       simp only [Option.bind_some, beq_self_eq_true, if_true, Bool.not_true, Bool.false_eq_true, if_false, bne_self_eq_false]
       rw [x1, y1]
       rfl
     refine ⟨_, F34_range hk h n, ?_⟩
     unfold F35
     rw [F84_eq hk, h]
     simp only [Option.bind_eq_bind, Option.bind_some]
     rw [F57_eq, decide_eq_false n]
     rfl
   unfold F37
   rw [F84_eq hk, h, f]
   rfl
 refine ⟨⟨_, F34_bad hk h, ?_⟩, _, F36_bad hk h, ?_⟩
 · unfold F35
   rw [F84_eq hk]
   simp only [Option.bind_eq_bind, Option.bind_some]
   rw [if_neg (by simpa using h)]
   simp only [Option.bind_some, Bool.false_eq_true, if_false]
   rw [if_neg (by simpa using h)]
   simp only [Option.bind_some, Bool.false_eq_true, if_false]
   rw [if_pos (by simpa using h)]
 unfold F37
 rw [F84_eq hk]
 simp only [Option.bind_eq_bind, Option.bind_some]
 rw [if_neg (by simpa using h)]
 rfl
end
end Go.Proofs.Ythpfffijnkmdgaa.plain
namespace Go.Proofs.Ythpfffijnkmdgaa
open Go Go.Cl plain
theorem plain (p0 : List (Int × (Int × Int))) (p1 : Int) (wp0 : ∀ x ∈ p0, (Lit.int .i64 x.1).wf = true ∧ (Lit.int .i64 x.2.1).wf = true ∧ (Lit.int .i64 x.2.2).wf = true) (wp1 : (Lit.int .i64 p1).wf = true) : F6 p0 p1 = some true := by
 unfold F6
 by_cases h : (p0.length : Int) > 60
 · rw [if_pos (by simpa using h)]; rfl
 rw [if_neg (by simpa using h)]
 have hl : p0.length ≤ 1000 := by omega
 obtain ⟨⟨r, f34, f35⟩, e, f36, f37⟩ := both_known hl p1
 simp only [Option.bind_eq_bind]
 rw [F33_eq hl]
 simp only [Option.bind_some]
 rw [f34, f35, f36, f37]
 simp only [Option.bind_some, beq_self_eq_true, Bool.and_self, if_true]
 rfl
end Go.Proofs.Ythpfffijnkmdgaa
