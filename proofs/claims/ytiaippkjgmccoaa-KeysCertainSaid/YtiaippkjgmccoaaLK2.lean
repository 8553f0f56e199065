/- What agrees, wrong and Check answer. -/
import Derived.Test.YtiaippkjgmccoaaLK1
set_option linter.unusedVariables false
namespace Go.Proofs.Ytiaippkjgmccoaa.plain
open Go Go.Cl
open Classical in
noncomputable def ag (rs : Rules) (l : List Case) : Bool := decide (Agrees rs l)
open Classical in
noncomputable def wr (rs : Rules) : Bool := decide (Wrong rs)
theorem ag_iff {rs : Rules} {l : List Case} : ag rs l = true ↔ Agrees rs l := by unfold ag; simp
theorem wr_iff {rs : Rules} : wr rs = true ↔ Wrong rs := by unfold wr; simp
theorem okC_ctr {T : Int} {c : Case} : okC T (ctr c) ↔ okC T c := Iff.rfl
section
variable {T : Int} {rs : Rules} {l : List Case}
theorem F68_eq (m : Map) (c : Case) : F68 T rs m c.1 c.2 = some (Option.isSome (mget m c)) := rfl
theorem isSome_met {m : Map} {c : Case} : Option.isSome (mget m c) = true ↔ met m c := by
 unfold met; cases mget m c <;> simp
theorem agrees_loop {m : Map} : ∀ es : Map, (F57l0 T rs l m () es = some (.inr ()) ∧ ∀ q ∈ es, ¬ met m (ctr q.1)) ∨ (F57l0 T rs l m () es = some (.inl ()) ∧ ∃ q ∈ es, met m (ctr q.1))
 | [] => .inl ⟨rfl, fun q h => by cases h⟩
 | q :: es => by
  have e : F57r0 T rs l m () q = some (if Option.isSome (mget m (ctr q.1)) = true then .inr (.inl ()) else .inl ()) := by
   unfold F57r0
   rw [F72_eq]
   simp only [Option.bind_eq_bind, Option.bind_some]
   rw [F68_eq]
   simp only [Option.bind_some]
   by_cases h : Option.isSome (mget m (ctr q.1)) = true
   · rw [if_pos h, if_pos h]
   rw [if_neg h, if_neg h]
  rw [F57l0, e]
  by_cases h : Option.isSome (mget m (ctr q.1)) = true
  · rw [if_pos h]
    exact .inr ⟨rfl, q, by simp, isSome_met.1 h⟩
  rw [if_neg h]
  rcases agrees_loop (m := m) es with ⟨a, b⟩ | ⟨a, w, hw, b⟩
  · refine .inl ⟨a, fun w hw => ?_⟩
    rcases List.mem_cons.1 hw with e | hw
    · rw [e]; exact fun hm => h (isSome_met.2 hm)
    exact b w hw
  exact .inr ⟨a, w, by simp [hw], b⟩
theorem mem_met {m : Map} {y : Case} : met m y ↔ ∃ q ∈ m, q.1 = y := by
 unfold met
 rw [Ne, mget_none]
 unfold keys
 rw [Classical.not_not, List.mem_map]
theorem F57_eq {T0 : Map} (hv : okR T rs) (hT : T ≤ 24) (hrs : rs.length ≤ 100) (hl : l.length ≤ 100) (ho : ∀ y ∈ l, okC T y) : ∃ m, F57 1 T rs T0 l = some (ag rs l, m) := by
 obtain ⟨m, D, f, F⟩ := reach_ok (T0 := T0) hv hT hrs hl ho
 refine ⟨m, ?_⟩
 show F57b (F57 0) T rs T0 l = _
 unfold F57b
 rw [f]
 simp only [Option.bind_eq_bind, Option.bind_some]
 by_cases hA : Agrees rs l
 · rw [ag_iff.2 hA, permAll_of (r := .inr ()) fun es he => ?_]
   · rfl
   rcases agrees_loop (T := T) (rs := rs) (l := l) (m := m) es with ⟨a, _⟩ | ⟨_, q, hq, b⟩
   · exact a
   exact absurd ((F.from_ _).1 b) (hA q.1 ((F.from_ _).1 (mem_met.2 ⟨q, he.mem_iff.1 hq, rfl⟩)))
 have hf : ag rs l = false := by
  cases h : ag rs l
  · rfl
  exact absurd (ag_iff.1 h) hA
 rw [hf, permAll_of (r := .inl ()) fun es he => ?_]
 · rfl
 rcases agrees_loop (T := T) (rs := rs) (l := l) (m := m) es with ⟨_, b⟩ | ⟨a, _⟩
 · refine absurd (fun y hy hy' => ?_) hA
   obtain ⟨q, hq, e⟩ := mem_met.1 ((F.from_ y).2 hy)
   exact b q (he.mem_iff.2 hq) (by rw [e]; exact (F.from_ _).2 hy')
 exact a
theorem reach_in (hv : okR T rs) {x y : Case} (h : Reach rs x y) : y = x ∨ okC T y := by
 cases h with
 | refl => exact .inl rfl
 | step _ e => exact .inr (leads_ok hv e)
def WrongAt (rs : Rules) (t : Int) : Prop := Reach rs (t, false) (t, true) ∧ Reach rs (t, true) (t, false)
theorem wrong_at (hv : okR T rs) : Wrong rs ↔ ∃ t, 0 ≤ t ∧ t < T ∧ WrongAt rs t := by
 constructor
 · rintro ⟨x, a, b⟩
   have hx : okC T x := (reach_in hv a).resolve_left (ctr_ne x)
   obtain ⟨t, i⟩ := x
   cases i
   · exact ⟨t, hx.1, hx.2, a, b⟩
   exact ⟨t, hx.1, hx.2, b, a⟩
 rintro ⟨t, _, _, a, b⟩
 exact ⟨(t, false), a, b⟩
theorem from_one {x y : Case} : From rs [x] y ↔ Reach rs x y := by
 unfold From
 simp
theorem wrong_loop (hv : okR T rs) (hT : T ≤ 24) (hrs : rs.length ≤ 100) : ∀ (d : Nat) (v : Int) (m : Map), 0 ≤ v → v + d = T → (∀ t, 0 ≤ t → t < v → ¬ WrongAt rs t) →
 (∃ m' t, F75l0 T rs v m = some (.inl (m', t)) ∧ 0 ≤ t ∧ t < T ∧ WrongAt rs t) ∨ (∃ m', F75l0 T rs v m = some (.inr m') ∧ ¬ Wrong rs) := by
 intro d
 induction d with
 | zero =>
  intro v m h0 hd hn
  right
  refine ⟨m, by rw [F75l0, if_neg (by simp; omega)], fun hw => ?_⟩
  obtain ⟨t, a, b, c⟩ := (wrong_at hv).1 hw
  exact hn t a (by omega) c
 | succ d ih =>
  intro v m h0 hd hn
  have w1 : w64 (v + 1) = v + 1 := w64_in (by omega) (by omega)
  have ho : ∀ i, ∀ y ∈ [((v, i) : Case)], okC T y := fun i y hy => by
   rw [List.mem_singleton.1 hy]; exact ⟨h0, by show v < T; omega⟩
  obtain ⟨m1, D1, f1, F1⟩ := reach_ok (T0 := m) hv hT hrs (l := [(v, false)]) (by simp) (ho _)
  have e72 : F72 v false = some (v, true) := rfl
  rw [F75l0, if_pos (by simp; omega), f1]
  simp only [Option.bind_eq_bind, Option.bind_some]
  rw [e72]
  simp only [Option.bind_some]
  rw [F68_eq m1 (v, true), w1]
  simp only [Option.bind_some]
  have next : ∀ m', ¬ WrongAt rs v → (∃ m'' t, F75l0 T rs (v + 1) m' = some (.inl (m'', t)) ∧ 0 ≤ t ∧ t < T ∧ WrongAt rs t) ∨ (∃ m'', F75l0 T rs (v + 1) m' = some (.inr m'') ∧ ¬ Wrong rs) := fun m' hw => by
   refine ih (v + 1) m' (by omega) (by omega) fun t a b => ?_
   by_cases e : t = v
   · rw [e]; exact hw
   exact hn t a (by omega)
  by_cases hm : met m1 (v, true)
  · rw [if_neg (by rw [isSome_met.2 hm]; simp)]
    obtain ⟨m2, D2, f2, F2⟩ := reach_ok (T0 := m1) hv hT hrs (l := [(v, true)]) (by simp) (ho _)
    rw [f2]
    simp only [Option.bind_some]
    rw [F68_eq m2 (v, false)]
    simp only [Option.bind_some]
    by_cases hm2 : met m2 (v, false)
    · rw [if_pos (isSome_met.2 hm2)]
      exact .inl ⟨m2, v, rfl, h0, by omega, from_one.1 ((F1.from_ _).1 hm), from_one.1 ((F2.from_ _).1 hm2)⟩
    rw [if_neg (fun h => hm2 (isSome_met.1 h))]
    exact next m2 fun hw => hm2 ((F2.from_ _).2 (from_one.2 hw.2))
  rw [if_pos (by rw [Bool.eq_false_iff.2 (fun h => hm (isSome_met.1 h))]; rfl)]
  exact next m1 fun hw => hm ((F1.from_ _).2 (from_one.2 hw.1))
theorem F75_eq (hv : okR T rs) (h0 : 0 ≤ T) (hT : T ≤ 24) (hrs : rs.length ≤ 100) (m : Map) : ∃ c m', F75 1 T rs m = some (c, wr rs, m') ∧ (wr rs = true → 0 ≤ c.1 ∧ c.1 < T ∧ c.2 = false ∧ WrongAt rs c.1) := by
 show ∃ c m', F75b (F75 0) T rs m = _ ∧ _
 unfold F75b
 rcases wrong_loop hv hT hrs T.toNat 0 m (Int.le_refl _) (by omega) (fun t a b => by omega) with ⟨m', t, f, a, b, c⟩ | ⟨m', f, h⟩
 · have hw : Wrong rs := (wrong_at hv).2 ⟨t, a, b, c⟩
   refine ⟨(t, false), m', ?_, fun _ => ⟨a, b, rfl, c⟩⟩
   rw [f, wr_iff.2 hw]
   rfl
 have hf : wr rs = false := by
  cases e : wr rs
  · rfl
  exact absurd (wr_iff.1 e) h
 refine ⟨(0, false), m', ?_, fun h2 => by rw [hf] at h2; cases h2⟩
 rw [f, hf]
 rfl
open Classical in
noncomputable def inC (T : Int) (l : List Case) : Bool := decide (∀ c ∈ l, okC T c)
theorem inC_iff : inC T l = true ↔ ∀ c ∈ l, okC T c := by unfold inC; simp
theorem F81_eq (c : Case) : (F81 c.1 c.2 T rs = some true ∧ ¬ okC T c) ∨ (F81 c.1 c.2 T rs = some false ∧ okC T c) := by
 unfold F81 okC
 by_cases h : c.1 < 0
 · left; rw [if_pos (by simpa using h)]; exact ⟨rfl, by omega⟩
 rw [if_neg (by simpa using h)]
 by_cases g : c.1 ≥ T
 · left; exact ⟨by simp [g], by omega⟩
 right; exact ⟨by simp; omega, by omega⟩
theorem has_loop (hl : l.length ≤ 1000) : ∀ (d v : Nat), v + d = l.length → (∃ n : Int, F87l0 l T rs v = some (.inl n) ∧ 0 ≤ n ∧ ∃ c ∈ l.drop v, ¬ okC T c) ∨ (F87l0 l T rs v = some (.inr ()) ∧ ∀ c ∈ l.drop v, okC T c) := by
 intro d
 induction d with
 | zero =>
  intro v hd
  right
  exact ⟨by rw [F87l0, if_neg (by simp; omega)], fun c hc => by rw [List.drop_eq_nil_of_le (by omega)] at hc; cases hc⟩
 | succ d ih =>
  intro v hd
  have hlt : v < l.length := by omega
  have hget : l.getD v (0, false) = l[v] := by rw [List.getD_eq_getElem?_getD, List.getElem?_eq_getElem hlt]; rfl
  have w1 : w64 ((v : Int) + 1) = ((v + 1 : Nat) : Int) := by rw [w64_in (by omega) (by omega)]; omega
  have hdr : l.drop v = l[v] :: l.drop (v + 1) := List.drop_eq_getElem_cons hlt
  rw [F87l0, if_pos (by simp; omega), if_pos ⟨by omega, by omega⟩, w1]
  simp only [Option.bind_eq_bind, Option.bind_some, show ((v : Int)).toNat = v from rfl, hget]
  rcases F81_eq (T := T) (rs := rs) l[v] with ⟨a, b⟩ | ⟨a, b⟩
  · rw [a]
    simp only [Option.bind_some, if_true]
    exact .inl ⟨v, rfl, by omega, l[v], by rw [hdr]; exact List.mem_cons_self, b⟩
  rw [a]
  simp only [Option.bind_some, Bool.false_eq_true, if_false]
  rcases ih (v + 1) (by omega) with ⟨n, f, g, c, hc, hk⟩ | ⟨f, g⟩
  · exact .inl ⟨n, f, g, c, by rw [hdr]; exact List.mem_cons_of_mem _ hc, hk⟩
  refine .inr ⟨f, fun c hc => ?_⟩
  rw [hdr] at hc
  rcases List.mem_cons.1 hc with e | hc
  · rw [e]; exact b
  exact g c hc
theorem F64_eq (hl : l.length ≤ 1000) : F64 T rs l = some (inC T l) := by
 unfold F64 F80 F87
 rcases has_loop (T := T) (rs := rs) hl l.length 0 (by omega) with ⟨n, f, g, c, hc, hk⟩ | ⟨f, g⟩
 · have : inC T l = false := by
    cases h : inC T l
    · rfl
    exact absurd (inC_iff.1 h c (by simpa using hc)) hk
   rw [show (0 : Int) = ((0 : Nat) : Int) from rfl, f, this]
   simp only [Option.bind_eq_bind, Option.bind_some]
   rw [decide_eq_true (by omega)]
   rfl
 have : inC T l = true := inC_iff.2 (by simpa using g)
 rw [show (0 : Int) = ((0 : Nat) : Int) from rfl, f, this]
 rfl
open Classical in
noncomputable def chk (T : Int) (rs : Rules) : Int := if T < 1 ∨ T > 24 then 1 else if rs.length > 80 then 3 else if okR T rs then 0 else 6
theorem chk_ok (h : chk T rs = 0) : 1 ≤ T ∧ T ≤ 24 ∧ rs.length ≤ 80 ∧ okR T rs := by
 unfold chk at h
 split at h
 · exact absurd h (by decide)
 split at h
 · exact absurd h (by decide)
 split at h
 · rename_i a b c; exact ⟨by omega, by omega, by omega, c⟩
 exact absurd h (by decide)
theorem okR_take {v : Nat} (hlt : v < rs.length) : okR T (rs.drop v) ↔ (okC T rs[v].1 ∧ okC T rs[v].2) ∧ okR T (rs.drop (v + 1)) := by
 unfold okR
 rw [List.drop_eq_getElem_cons hlt]
 exact List.forall_mem_cons
theorem check_loop (hrs : rs.length ≤ 1000) : ∀ (d v : Nat), v + d = rs.length → (F26l0 T rs v = some (.inr ()) ∧ okR T (rs.drop v)) ∨ (F26l0 T rs v = some (.inl ()) ∧ ¬ okR T (rs.drop v)) := by
 intro d
 induction d with
 | zero =>
  intro v hd
  left
  exact ⟨by rw [F26l0, if_neg (by simp; omega)], fun c hc => by rw [List.drop_eq_nil_of_le (by omega)] at hc; cases hc⟩
 | succ d ih =>
  intro v hd
  have hlt : v < rs.length := by omega
  have hget : rs.getD v ((0, false), (0, false)) = rs[v] := by rw [List.getD_eq_getElem?_getD, List.getElem?_eq_getElem hlt]; rfl
  have w1 : w64 ((v : Int) + 1) = ((v + 1 : Nat) : Int) := by rw [w64_in (by omega) (by omega)]; omega
  rw [F26l0, if_pos (by simp; omega), if_pos ⟨by omega, by omega⟩, w1]
  simp only [Option.bind_eq_bind, Option.bind_some, show ((v : Int)).toNat = v from rfl, hget, okR_take hlt]
  rw [F64_eq (by simp)]
  simp only [Option.bind_some]
  by_cases h : okC T rs[v].1 ∧ okC T rs[v].2
  · have : inC T [(rs[v].1.1, rs[v].1.2), (rs[v].2.1, rs[v].2.2)] = true := inC_iff.2 (by simp; exact h)
    rw [this, if_neg (by decide)]
    rcases ih (v + 1) (by omega) with ⟨a, b⟩ | ⟨a, b⟩
    · exact .inl ⟨a, h, b⟩
    exact .inr ⟨a, fun g => b g.2⟩
  have : inC T [(rs[v].1.1, rs[v].1.2), (rs[v].2.1, rs[v].2.2)] = false := by
   cases e : inC T [(rs[v].1.1, rs[v].1.2), (rs[v].2.1, rs[v].2.2)]
   · rfl
   have := inC_iff.1 e; simp at this; exact absurd this h
  rw [this, if_pos (by decide)]
  exact .inr ⟨rfl, fun g => h g.1⟩
theorem F26_eq (hrs : rs.length ≤ 1000) : F26 T rs = some (chk T rs) := by
 have h3' : decide ((rs.length : Int) > 80) = decide (rs.length > 80) := by rw [decide_eq_decide]; omega
 unfold F26
 rw [h3']
 by_cases h1 : T < 1
 · rw [decide_eq_true h1]
   unfold chk
   rw [if_pos (c := T < 1 ∨ T > 24) (.inl h1)]; rfl
 rw [decide_eq_false h1]
 by_cases h2 : T > 24
 · rw [decide_eq_true h2]
   unfold chk
   rw [if_pos (c := T < 1 ∨ T > 24) (.inr h2)]; rfl
 rw [decide_eq_false h2]
 unfold chk
 rw [if_neg (c := T < 1 ∨ T > 24) (by omega)]
 simp only [Option.bind_eq_bind, Option.bind_some, Bool.false_eq_true, if_false]
 by_cases h3 : rs.length > 80
 · rw [decide_eq_true h3, if_pos h3]; rfl
 rw [decide_eq_false h3, if_neg h3]
 have := check_loop (T := T) hrs rs.length 0 (by omega)
 rw [List.drop_zero] at this
 rw [show (0 : Int) = ((0 : Nat) : Int) from rfl]
 rcases this with ⟨a, b⟩ | ⟨a, b⟩
 · rw [a, if_pos b]; rfl
 rw [a, if_neg b]; rfl
end
end Go.Proofs.Ytiaippkjgmccoaa.plain
