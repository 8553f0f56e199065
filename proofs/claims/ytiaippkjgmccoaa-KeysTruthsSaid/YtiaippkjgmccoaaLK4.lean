/- First, Certain and Broken answer as the reference does. -/
import Derived.Test.YtiaippkjgmccoaaLK3
set_option linter.unusedVariables false
namespace Go.Proofs.Ytiaippkjgmccoaa.plain
open Go Go.Cl
section
variable {T : Int} {rs : Rules} {l : List Case}
theorem cons_get {α : Type} {l : List α} {v : Nat} (d : α) (hlt : v < l.length) : l.getD v d = l[v] := by rw [List.getD_eq_getElem?_getD, List.getElem?_eq_getElem hlt]; rfl
theorem w64_up {v : Nat} (h : v ≤ 1000000) : w64 ((v : Int) + 1) = ((v + 1 : Nat) : Int) := by rw [w64_in (by omega) (by omega)]; omega
theorem F16_eq (hrs : rs.length ≤ 1000) : F16 T rs = some (T, rs) := by
 have go : ∀ (d v : Nat), v + d = rs.length → F16l0 T rs v (rs.take v) = some rs := by
  intro d
  induction d with
  | zero => intro v hd; rw [F16l0, if_neg (by simp; omega), List.take_of_length_le (by omega)]
  | succ d ih =>
   intro v hd
   have hlt : v < rs.length := by omega
   rw [F16l0, if_pos (by simp; omega), if_pos ⟨by omega, by omega⟩, w64_up (by omega)]
   simp only [Option.bind_eq_bind, Option.bind_some, show ((v : Int)).toNat = v from rfl, cons_get _ hlt]
   rw [if_pos (by rw [List.length_take]; omega)]
   have := ih (v + 1) (by omega)
   rw [List.take_add_one, List.getElem?_eq_getElem hlt] at this
   exact this
 unfold F16
 have := go rs.length 0 (by omega)
 rw [List.take_zero] at this
 rw [show (0 : Int) = ((0 : Nat) : Int) from rfl, this]
 rfl
theorem F17_eq (hl : l.length ≤ 1000) : F17 l = some l := by
 have go : ∀ (d v : Nat), v + d = l.length → F17l0 l (l.take v) v = some l := by
  intro d
  induction d with
  | zero => intro v hd; rw [F17l0, if_neg (by simp; omega), List.take_of_length_le (by omega)]
  | succ d ih =>
   intro v hd
   have hlt : v < l.length := by omega
   rw [F17l0, if_pos (by simp; omega), if_pos ⟨by omega, by omega⟩, w64_up (by omega)]
   simp only [Option.bind_eq_bind, Option.bind_some, show ((v : Int)).toNat = v from rfl, cons_get _ hlt]
   rw [if_pos (by rw [List.length_take]; omega)]
   have := ih (v + 1) (by omega)
   rw [List.take_add_one, List.getElem?_eq_getElem hlt] at this
   exact this
 unfold F17
 have := go l.length 0 (by omega)
 rw [List.take_zero] at this
 rw [show (0 : Int) = ((0 : Nat) : Int) from rfl, this]
 rfl
theorem F24_eq {a : List Bool} (ha : a.length ≤ 1000) : F24 a a = some true := by
 have go : ∀ (d v : Nat), v + d = a.length → F24l0 a a v = some (.inr ()) := by
  intro d
  induction d with
  | zero => intro v hd; rw [F24l0, if_neg (by simp; omega)]
  | succ d ih =>
   intro v hd
   have hlt : v < a.length := by omega
   rw [F24l0, if_pos (by simp; omega), if_pos ⟨by omega, by omega⟩, w64_up (by omega)]
   simp only [Option.bind_eq_bind, Option.bind_some]
   rw [if_pos ⟨by omega, by omega⟩]
   simp only [beq_self_eq_true, Bool.not_true, Bool.false_eq_true, if_false]
   exact ih (v + 1) (by omega)
 unfold F24
 rw [if_neg (by simp), show (0 : Int) = ((0 : Nat) : Int) from rfl, go a.length 0 (by omega)]
 rfl
theorem F25_eq {a : List Int} (ha : a.length ≤ 1000) : F25 a a = some true := by
 have go : ∀ (d v : Nat), v + d = a.length → F25l0 a a v = some (.inr ()) := by
  intro d
  induction d with
  | zero => intro v hd; rw [F25l0, if_neg (by simp; omega)]
  | succ d ih =>
   intro v hd
   have hlt : v < a.length := by omega
   rw [F25l0, if_pos (by simp; omega), if_pos ⟨by omega, by omega⟩, w64_up (by omega)]
   simp only [Option.bind_eq_bind, Option.bind_some]
   rw [if_pos ⟨by omega, by omega⟩]
   simp only [bne_self_eq_false, Bool.false_eq_true, if_false]
   exact ih (v + 1) (by omega)
 unfold F25
 rw [if_neg (by simp), show (0 : Int) = ((0 : Nat) : Int) from rfl, go a.length 0 (by omega)]
 rfl
def hb (vals : List Bool) (c : Case) : Bool := vals.getD c.1.toNat false == c.2
theorem F62_eq {vals : List Bool} {c : Case} (hT : (vals.length : Int) = T) (hc : okC T c) : F62 c.1 c.2 vals = some (hb vals c) := by
 unfold F62
 rw [if_pos ⟨hc.1, by rw [hT]; exact hc.2⟩]
 rfl
theorem F63_eq {vals : List Bool} {a b : Case} (hT : (vals.length : Int) = T) (ha : okC T a) (hc : okC T b) : F63 a.1 a.2 b.1 b.2 vals = some (hb vals a || hb vals b) := by
 have cb : (0 : Int) ≤ b.1 ∧ b.1 < (vals.length : Int) := ⟨hc.1, by rw [hT]; exact hc.2⟩
 unfold F63
 rw [if_pos ⟨ha.1, by rw [hT]; exact ha.2⟩]
 simp only [Option.bind_eq_bind, Option.bind_some]
 unfold hb
 cases e : (vals.getD a.1.toNat false == a.2)
 · rw [if_neg (by decide), if_pos cb]; rfl
 rfl
theorem broken_loop (hv : okR T rs) (hrs : rs.length ≤ 1000) {vals : List Bool} (hT : (vals.length : Int) = T) : ∀ (d v : Nat) (out : List Int), v + d = rs.length → out.length ≤ v → ∃ o, F22l0 rs vals out v = some o ∧ F23l0 T rs vals out v = some o ∧ o.length ≤ rs.length := by
 intro d
 induction d with
 | zero =>
  intro v out hd ho
  exact ⟨out, by rw [F22l0, if_neg (by simp; omega)], by rw [F23l0, if_neg (by simp; omega)], by omega⟩
 | succ d ih =>
  intro v out hd ho
  have hlt : v < rs.length := by omega
  obtain ⟨oa, ob⟩ := hv _ (List.getElem_mem hlt)
  have c1 : decide ((v : Int) < (rs.length : Int)) = true := by simp; omega
  have c2 : (0 : Int) ≤ (v : Int) ∧ (v : Int) < (rs.length : Int) := ⟨by omega, by omega⟩
  have hlen : out.length ≤ 1000000000 := by omega
  rw [F22l0, F23l0, w64_up (by omega)]
  simp only [c1, c2, hlen, and_self, if_true]
  simp only [Option.bind_eq_bind, Option.bind_some, show ((v : Int)).toNat = v from rfl, cons_get _ hlt]
  rw [F62_eq hT oa, F62_eq hT ob, F63_eq hT oa ob]
  simp only [Option.bind_some]
  cases h1 : hb vals rs[v].1 <;> cases h2 : hb vals rs[v].2 <;> simp only [Bool.not_true, Bool.not_false, Bool.false_eq_true, Bool.true_or, Bool.or_true, Bool.or_self, Bool.or_false, if_true, if_false, Option.bind_some]
  · exact ih (v + 1) _ (by omega) (by simp; omega)
  · exact ih (v + 1) _ (by omega) (by omega)
  · exact ih (v + 1) _ (by omega) (by omega)
  exact ih (v + 1) _ (by omega) (by omega)
theorem broken_eq (hrs : rs.length ≤ 1000) (vals : List Bool) : ∃ o e, F22 T rs vals = some (o, e) ∧ F23 T rs vals = some (o, e) ∧ o.length ≤ 1000 := by
 unfold F22 F23
 rw [F26_eq hrs, F27_eq hrs]
 simp only [Option.bind_eq_bind, Option.bind_some]
 by_cases h : chk T rs = 0
 · obtain ⟨t1, t2, t3, hv⟩ := chk_ok h
   simp only [h, bne_self_eq_false, beq_self_eq_true, Bool.false_eq_true, if_true, if_false, Option.bind_some]
   by_cases hT : (vals.length : Int) = T
   · obtain ⟨o, f, g, q⟩ := broken_loop hv hrs hT rs.length 0 [] (by omega) (Nat.zero_le _)
     refine ⟨o, 0, ?_, ?_, by omega⟩
     · rw [if_neg (by simp [hT]), show (0 : Int) = ((0 : Nat) : Int) from rfl, f]; rfl
     simp only [hT, bne_self_eq_false, Bool.false_eq_true, if_false, Option.bind_some]
     rw [show (0 : Int) = ((0 : Nat) : Int) from rfl, g]; rfl
   refine ⟨[], 4, ?_, ?_, by simp⟩
   · rw [if_pos (by simpa using hT)]
   have : ((vals.length : Int) != T) = true := by simpa using hT
   simp only [this, if_true, Option.bind_some]
   rfl
 have hb : (chk T rs != 0) = true := by simpa using h
 have hc : (chk T rs == 0) = false := by simpa using h
 refine ⟨[], chk T rs, ?_, ?_, by simp⟩
 · rw [if_pos hb]
 simp only [hc, hb, Bool.false_eq_true, if_true, if_false, Option.bind_some]
theorem F56_eq (hl : l.length ≤ 1000) : F56 l = some l := by unfold F56; rw [if_pos (by omega)]
theorem F61_eq (hl : l.length ≤ 1000) (t : Int) (b : Bool) : F61 l t b = some (l ++ [(t, b)]) := by unfold F61; rw [if_pos (by omega)]
theorem ok_snoc {t : Int} {b : Bool} (ho : ∀ y ∈ l, okC T y) (h0 : 0 ≤ t) (h1 : t < T) : ∀ y ∈ l ++ [((t, b) : Case)], okC T y := fun y hy => by
 rcases List.mem_append.1 hy with h | h
 · exact ho y h
 rw [List.mem_singleton.1 h]; exact ⟨h0, h1⟩
noncomputable def first (rs : Rules) : Nat → Int → List Case → List Bool
 | 0, _, _ => []
 | d + 1, t, now => (!ag rs (now ++ [(t, false)])) :: first rs d (t + 1) (now ++ [(t, !ag rs (now ++ [(t, false)]))])
theorem len_first (rs : Rules) : ∀ (d : Nat) (t : Int) (now : List Case), (first rs d t now).length = d
 | 0, _, _ => rfl
 | d + 1, t, now => by rw [first, List.length_cons, len_first]
theorem ite_not (b : Bool) : (if (!b) = true then some true else some false) = some (!b) := by cases b <;> rfl
theorem first_loop (hv : okR T rs) (h0 : 0 ≤ T) (hT : T ≤ 24) (hrs : rs.length ≤ 100) : ∀ (d : Nat) (t : Int) (m : Map) (now : List Case) (out : List Bool), 0 ≤ t → t + d = T → (now.length : Int) + d ≤ 60 → (out.length : Int) ≤ t → (∀ y ∈ now, okC T y) →
 F18l0 T rs l out t m now = some (out ++ first rs d t now) := by
 intro d
 induction d with
 | zero => intro t m now out a b c o e; rw [F18l0, if_neg (by simp; omega)]; simp [first]
 | succ d ih =>
  intro t m now out a b c o e
  have ob : ∀ b, ∀ y ∈ now ++ [((t, b) : Case)], okC T y := fun b => ok_snoc e a (by omega)
  obtain ⟨m', f⟩ := F57_eq (T0 := m) hv hT hrs (l := now ++ [(t, false)]) (by simp; omega) (ob _)
  rw [F18l0, if_pos (by simp; omega), List.drop_zero, if_pos (by omega), f]
  simp only [Option.bind_eq_bind, Option.bind_some, ite_not]
  rw [if_pos (by omega), if_pos (by omega), w64_in (by omega) (by omega), ih (t + 1) _ _ _ (by omega) (by omega) (by simp; omega) (by simp; omega) (ob _), first, List.append_assoc]
  rfl
theorem rfirst_loop (hv : okR T rs) (h0 : 0 ≤ T) (hT : T ≤ 24) (hrs : rs.length ≤ 100) (hw : wr rs = false) : ∀ (d : Nat) (t : Int) (now : List Case) (out : List Bool), 0 ≤ t → t + d = T → (now.length : Int) + d ≤ 60 → (out.length : Int) ≤ t → (∀ y ∈ now, okC T y) →
 F19l0 T rs l out t now = some (out ++ first rs d t now) := by
 intro d
 induction d with
 | zero => intro t now out a b c o e; rw [F19l0, if_neg (by simp; omega)]; simp [first]
 | succ d ih =>
  intro t now out a b c o e
  have ob : ∀ b, ∀ y ∈ now ++ [((t, b) : Case)], okC T y := fun b => ok_snoc e a (by omega)
  rw [F19l0, if_pos (by simp; omega), F61_eq (by omega)]
  simp only [Option.bind_eq_bind, Option.bind_some]
  rw [F60_eq hv h0 hT hrs (by simp; omega) (ob _), hw]
  simp only [Option.bind_some, Bool.not_false, Bool.true_and, ite_not]
  rw [F61_eq (by omega)]
  simp only [Option.bind_some]
  rw [if_pos (by omega), w64_in (by omega) (by omega), ih (t + 1) _ _ (by omega) (by omega) (by simp; omega) (by simp; omega) (ob _), first, List.append_assoc]
  rfl
noncomputable def cert (rs : Rules) (l : List Case) : Nat → Int → List Int
 | 0, _ => []
 | d + 1, t => (if ag rs (l ++ [(t, true)]) then if ag rs (l ++ [(t, false)]) then 2 else 1 else 0) :: cert rs l d (t + 1)
theorem len_cert (rs : Rules) (l : List Case) : ∀ (d : Nat) (t : Int), (cert rs l d t).length = d
 | 0, _ => rfl
 | d + 1, t => by rw [cert, List.length_cons, len_cert]
theorem ite_one (b : Bool) : (if (!b) = true then some (1 : Int) else some 2) = some (if b then 2 else 1) := by cases b <;> rfl
theorem ite_zero (b : Bool) (x : Int) : (if (!b) = true then some (0 : Int) else some x) = some (if b then x else 0) := by cases b <;> rfl
theorem cert_loop (hv : okR T rs) (h0 : 0 ≤ T) (hT : T ≤ 24) (hrs : rs.length ≤ 100) (hl : l.length ≤ 30) (ho : ∀ y ∈ l, okC T y) : ∀ (d : Nat) (t : Int) (m : Map) (out : List Int), 0 ≤ t → t + d = T → (out.length : Int) ≤ t →
 F20l0 T rs l out t m = some (out ++ cert rs l d t) := by
 intro d
 induction d with
 | zero => intro t m out a b o; rw [F20l0, if_neg (by simp; omega)]; simp [cert]
 | succ d ih =>
  intro t m out a b o
  have ob : ∀ b, ∀ y ∈ l ++ [((t, b) : Case)], okC T y := fun b => ok_snoc ho a (by omega)
  obtain ⟨m1, f1⟩ := F57_eq (T0 := m) hv hT hrs (l := l ++ [(t, false)]) (by simp; omega) (ob _)
  obtain ⟨m2, f2⟩ := F57_eq (T0 := m1) hv hT hrs (l := l ++ [(t, true)]) (by simp; omega) (ob _)
  rw [F20l0, if_pos (by simp; omega), if_pos (by omega), f1]
  simp only [Option.bind_eq_bind, Option.bind_some, ite_one]
  rw [f2]
  simp only [Option.bind_some, ite_zero]
  rw [if_pos (by omega), w64_in (by omega) (by omega), ih (t + 1) _ _ (by omega) (by omega) (by simp; omega), cert, List.append_assoc]
  rfl
theorem rcert_loop (hv : okR T rs) (h0 : 0 ≤ T) (hT : T ≤ 24) (hrs : rs.length ≤ 100) (hw : wr rs = false) (hl : l.length ≤ 30) (ho : ∀ y ∈ l, okC T y) : ∀ (d : Nat) (t : Int) (out : List Int), 0 ≤ t → t + d = T → (out.length : Int) ≤ t →
 F21l0 T rs l out t = some (out ++ cert rs l d t) := by
 intro d
 induction d with
 | zero => intro t out a b o; rw [F21l0, if_neg (by simp; omega)]; simp [cert]
 | succ d ih =>
  intro t out a b o
  have ob : ∀ b, ∀ y ∈ l ++ [((t, b) : Case)], okC T y := fun b => ok_snoc ho a (by omega)
  rw [F21l0, if_pos (by simp; omega), F61_eq (by omega)]
  simp only [Option.bind_eq_bind, Option.bind_some]
  rw [F60_eq hv h0 hT hrs (by simp; omega) (ob _), hw]
  simp only [Option.bind_some, Bool.not_false, Bool.true_and, ite_one]
  rw [F61_eq (by omega)]
  simp only [Option.bind_some]
  rw [F60_eq hv h0 hT hrs (by simp; omega) (ob _), hw]
  simp only [Option.bind_some, Bool.not_false, Bool.true_and, ite_zero]
  rw [if_pos (by omega), w64_in (by omega) (by omega), ih (t + 1) _ (by omega) (by omega) (by simp; omega), cert, List.append_assoc]
  rfl
noncomputable def err (T : Int) (rs : Rules) (l : List Case) : Int := if chk2 T rs l ≠ 0 then chk2 T rs l else if wr rs = false ∧ ag rs l = true then 0 else 13
theorem chk2_ok (h : chk2 T rs l = 0) : 1 ≤ T ∧ T ≤ 24 ∧ rs.length ≤ 80 ∧ okR T rs ∧ l.length ≤ 24 ∧ ∀ y ∈ l, okC T y := by
 unfold chk2 at h
 split at h
 · exact absurd h (by assumption)
 rename_i h1
 obtain ⟨a, b, c, d⟩ := chk_ok (Classical.not_not.1 h1)
 split at h
 · exact absurd h (by decide)
 split at h
 · rename_i h2 h3; exact ⟨a, b, c, d, by omega, inC_iff.1 h3⟩
 exact absurd h (by decide)
theorem ask_eq (hrs : rs.length ≤ 1000) (hl : l.length ≤ 1000) {γ : Type} (bad : Int → γ) (K : Map → Option γ) :
 (∃ m, ((F26 T rs).bind fun r1 => if (r1 != 0) = true then some (bad r1) else if decide ((l.length : Int) > 24) = true then some (bad 3) else
  (F64 T rs l).bind fun r5 => if (!r5) = true then some (bad 6) else (F75 1 T rs []).bind fun r8 =>
   (if r8.2.1 = true then some (true, r8.2.2) else (F57 1 T rs r8.2.2 l).bind fun r11 => some (!r11.1, r11.2)).bind fun m13 =>
    if m13.1 = true then some (bad 13) else K m13.2) = if err T rs l ≠ 0 then some (bad (err T rs l)) else K m) := by
 have h3' : decide ((l.length : Int) > 24) = decide (l.length > 24) := by rw [decide_eq_decide]; omega
 rw [F26_eq hrs, F64_eq hl, h3']
 simp only [Option.bind_some]
 unfold err chk2
 by_cases h : chk T rs = 0
 · obtain ⟨t1, t2, t3, hv⟩ := chk_ok h
   simp only [h, bne_self_eq_false, Bool.false_eq_true, if_false, ne_eq, not_true_eq_false]
   by_cases h3 : l.length > 24
   · refine ⟨[], ?_⟩
     rw [if_pos (by simpa using h3), if_pos h3]; rfl
   rw [if_neg (by simpa using h3), if_neg h3]
   cases hi : inC T l
   · exact ⟨[], rfl⟩
   have ho := inC_iff.1 hi
   obtain ⟨c, m, f, _⟩ := F75_eq hv (by omega) t2 (by omega) []
   rw [f]
   simp only [Bool.not_true, Bool.false_eq_true, if_false, Option.bind_some]
   cases hw : wr rs
   · obtain ⟨m2, f2⟩ := F57_eq (T0 := m) hv t2 (by omega) (by omega) ho
     simp only [Bool.false_eq_true, if_false]
     rw [f2]
     simp only [Option.bind_some]
     refine ⟨m2, ?_⟩
     cases ha : ag rs l <;> simp
   refine ⟨[], ?_⟩
   simp
 refine ⟨[], ?_⟩
 rw [if_pos (by simpa using h)]
 simp [h]
theorem F18_eq (hrs : rs.length ≤ 1000) (hl : l.length ≤ 1000) : F18 T rs l = some (if err T rs l = 0 then first rs T.toNat 0 l else [], err T rs l) := by
 obtain ⟨m, h⟩ := ask_eq (T := T) hrs hl (fun e => (([] : List Bool), e)) (fun m => (F56 l).bind fun r15 => (F18l0 T rs l [] 0 m r15).bind fun r64 => some (r64, 0))
 refine Eq.trans (Eq.trans ?_ h) ?_
 · rfl
 by_cases e : err T rs l = 0
 · rw [if_neg (by simpa using e), if_pos e, e]
   have e2 : chk2 T rs l = 0 := by
    refine Classical.byContradiction fun g => ?_
    unfold err at e
    rw [if_pos g] at e
    exact g e
   obtain ⟨a, b, c, d, f, g⟩ := chk2_ok e2
   rw [F56_eq hl]
   simp only [Option.bind_some]
   rw [first_loop d (by omega) b (by omega) T.toNat 0 m l [] (Int.le_refl _) (by omega) (by omega) (by simp) g]
   rfl
 rw [if_pos e, if_neg e]
theorem F20_eq (hrs : rs.length ≤ 1000) (hl : l.length ≤ 1000) : F20 T rs l = some (if err T rs l = 0 then cert rs l T.toNat 0 else [], err T rs l) := by
 obtain ⟨m, h⟩ := ask_eq (T := T) hrs hl (fun e => (([] : List Int), e)) (fun m => (F20l0 T rs l [] 0 m).bind fun r64 => some (r64, 0))
 refine Eq.trans (Eq.trans ?_ h) ?_
 · rfl
 by_cases e : err T rs l = 0
 · rw [if_neg (by simpa using e), if_pos e, e]
   have e2 : chk2 T rs l = 0 := by
    refine Classical.byContradiction fun g => ?_
    unfold err at e
    rw [if_pos g] at e
    exact g e
   obtain ⟨a, b, c, d, f, g⟩ := chk2_ok e2
   rw [cert_loop d (by omega) b (by omega) (by omega) g T.toNat 0 m [] (Int.le_refl _) (by omega) (by simp)]
   rfl
 rw [if_pos e, if_neg e]
theorem rask_eq (hrs : rs.length ≤ 1000) (hl : l.length ≤ 1000) {γ : Type} (K : Int → Option γ) :
 ((F59 T rs l).bind fun r1 => (if (r1 == 0) = true then (F60 T rs l).bind fun r4 => some (!r4) else some false).bind fun m6 => (if m6 = true then some 13 else some r1).bind K) = K (err T rs l) := by
 rw [F59_eq hrs hl]
 simp only [Option.bind_some]
 unfold err
 by_cases e2 : chk2 T rs l = 0
 · obtain ⟨a, b, c, d, f, g⟩ := chk2_ok e2
   rw [F60_eq d (by omega) b (by omega) (by omega) g, e2]
   cases wr rs <;> cases ag rs l <;> rfl
 have e3 : (chk2 T rs l == 0) = false := by simpa using e2
 rw [if_pos e2]
 simp only [e3, Bool.false_eq_true, if_false, Option.bind_some]
theorem err_ok (e : err T rs l = 0) : chk2 T rs l = 0 ∧ wr rs = false ∧ ag rs l = true := by
 unfold err at e
 split at e
 · rename_i g; exact absurd e g
 rename_i g
 split at e
 · rename_i k; exact ⟨Classical.not_not.1 g, k⟩
 exact absurd e (by decide)
theorem F19_eq (hrs : rs.length ≤ 1000) (hl : l.length ≤ 1000) : F19 T rs l = some (if err T rs l = 0 then first rs T.toNat 0 l else [], err T rs l) := by
 refine Eq.trans (rask_eq (T := T) hrs hl (fun m9 => if (m9 != 0) = true then some (([] : List Bool), m9) else if l.length ≤ 1000000000 then (F19l0 T rs l [] 0 l).bind fun r54 => some (r54, 0) else none)) ?_
 by_cases e : err T rs l = 0
 · obtain ⟨e2, hw, ha⟩ := err_ok e
   obtain ⟨a, b, c, d, f, g⟩ := chk2_ok e2
   rw [if_neg (by simpa using e), if_pos e, e, if_pos (by omega)]
   rw [rfirst_loop d (by omega) b (by omega) hw T.toNat 0 l [] (Int.le_refl _) (by omega) (by omega) (by simp) g]
   rfl
 rw [if_pos (by simpa using e), if_neg e]
theorem F21_eq (hrs : rs.length ≤ 1000) (hl : l.length ≤ 1000) : F21 T rs l = some (if err T rs l = 0 then cert rs l T.toNat 0 else [], err T rs l) := by
 refine Eq.trans (rask_eq (T := T) hrs hl (fun m9 => if (m9 != 0) = true then some (([] : List Int), m9) else (F21l0 T rs l [] 0).bind fun r54 => some (r54, 0))) ?_
 by_cases e : err T rs l = 0
 · obtain ⟨e2, hw, ha⟩ := err_ok e
   obtain ⟨a, b, c, d, f, g⟩ := chk2_ok e2
   rw [if_neg (by simpa using e), if_pos e, e]
   rw [rcert_loop d (by omega) b (by omega) hw (by omega) g T.toNat 0 [] (Int.le_refl _) (by omega) (by simp)]
   rfl
 rw [if_pos (by simpa using e), if_neg e]
theorem first_short (hrs : rs.length ≤ 1000) : (if err T rs l = 0 then first rs T.toNat 0 l else []).length ≤ 1000 := by
 split
 · rename_i e
   have := chk2_ok (err_ok e).1
   rw [len_first]; omega
 simp
theorem cert_short (hrs : rs.length ≤ 1000) : (if err T rs l = 0 then cert rs l T.toNat 0 else []).length ≤ 1000 := by
 split
 · rename_i e
   have := chk2_ok (err_ok e).1
   rw [len_cert]; omega
 simp
end
end Go.Proofs.Ytiaippkjgmccoaa.plain
