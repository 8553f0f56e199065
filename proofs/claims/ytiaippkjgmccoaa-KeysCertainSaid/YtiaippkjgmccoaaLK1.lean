/- What reach finds: all cases that chains lead to, each by a shortest chain. -/
import Derived.Test.YtiaippkjgmccoaaKA
import Derived.Test.YtiaippkjgmccoaaLM
import Derived.Test.YtiaippkjgmccoaaLK0
set_option linter.unusedVariables false
namespace Go.Cl
theorem len_le_sub {α : Type} [DecidableEq α] : ∀ {l m : List α}, l.Nodup → (∀ x ∈ l, x ∈ m) → l.length ≤ m.length
 | [], m, _, _ => Nat.zero_le _
 | x :: l, m, hn, hs => by
  have hn' := List.nodup_cons.1 hn
  have hx : x ∈ m := hs x (by simp)
  have := len_le_sub (l := l) (m := m.erase x) hn'.2 (fun y hy => by
   have hne : y ≠ x := fun e => hn'.1 (e ▸ hy)
   exact (List.mem_erase_of_ne hne).2 (hs y (by simp [hy])))
  rw [List.length_erase_of_mem hx] at this
  have := List.length_pos_of_mem hx
  simp only [List.length_cons]
  omega
end Go.Cl
namespace Go.Proofs.Ytiaippkjgmccoaa.plain
open Go Go.Cl
abbrev Map := List (Case × Case)
def met (m : Map) (y : Case) : Prop := mget m y ≠ none
theorem met_mput {m : Map} {y x u : Case} : met (mput m y x) u ↔ u = y ∨ met m u := by
 unfold met
 rw [mget_mput]
 by_cases h : u = y
 · simp [h]
 simp [h]
def okC (T : Int) (c : Case) : Prop := 0 ≤ c.1 ∧ c.1 < T
def okR (T : Int) (rs : Rules) : Prop := ∀ r ∈ rs, okC T r.1 ∧ okC T r.2
def nodes (T : Int) : List Case := (List.range T.toNat).flatMap fun t : Nat => [((t : Int), false), ((t : Int), true)]
theorem mem_nodes {T : Int} {c : Case} (h : okC T c) : c ∈ nodes T := by
 unfold nodes
 refine List.mem_flatMap.2 ⟨c.1.toNat, List.mem_range.2 (by have := h.1; have := h.2; omega), ?_⟩
 have : ((c.1.toNat : Nat) : Int) = c.1 := Int.toNat_of_nonneg h.1
 rw [this]
 obtain ⟨a, b⟩ := c
 cases b <;> simp
theorem len_nodes (T : Int) : (nodes T).length = 2 * T.toNat := by
 unfold nodes
 generalize T.toNat = n
 induction n with
 | zero => rfl
 | succ n ih => rw [List.range_succ, List.flatMap_append, List.length_append, ih]; simp; omega
def rled (x : Case) (r : Case × Case) : Option Case := if ctr x = r.1 then some r.2 else if ctr x = r.2 then some r.1 else none
theorem rled_iff {x z : Case} {r : Case × Case} : rled x r = some z ↔ ((r.1 = ctr x ∧ r.2 = z) ∨ (r.2 = ctr x ∧ r.1 = z)) := by
 unfold rled
 by_cases h : ctr x = r.1
 · rw [if_pos h]
   constructor
   · intro e; exact .inl ⟨h.symm, Option.some.inj e⟩
   rintro (⟨a, b⟩ | ⟨a, b⟩)
   · rw [b]
   rw [a, ← b, h]
 rw [if_neg h]
 by_cases g : ctr x = r.2
 · rw [if_pos g]
   constructor
   · intro e; exact .inr ⟨g.symm, Option.some.inj e⟩
   rintro (⟨a, b⟩ | ⟨a, b⟩)
   · exact absurd a.symm h
   rw [b]
 rw [if_neg g]
 constructor
 · intro e; cases e
 rintro (⟨a, b⟩ | ⟨a, b⟩)
 · exact absurd a.symm h
 exact absurd a.symm g
theorem leads_iff {rs : Rules} {x z : Case} : Leads rs x z ↔ ∃ r ∈ rs, rled x r = some z := by
 unfold Leads
 constructor
 · rintro ⟨r, hr, h⟩; exact ⟨r, hr, rled_iff.2 h⟩
 rintro ⟨r, hr, h⟩; exact ⟨r, hr, rled_iff.1 h⟩
theorem leads_ok {T : Int} {rs : Rules} (hv : okR T rs) {x z : Case} (h : Leads rs x z) : okC T z := by
 obtain ⟨r, hr, ⟨_, e⟩ | ⟨_, e⟩⟩ := h
 · rw [← e]; exact (hv r hr).2
 rw [← e]; exact (hv r hr).1
def stepR (x : Case) (s : List Case × Map) (r : Case × Case) : List Case × Map :=
 match rled x r with
 | none => s
 | some y => if mget s.2 y = none then (s.1 ++ [y], mput s.2 y x) else s
structure Part (T : Int) (rs : Rules) (l : List Case) (x : Option Case) (dn : Rules) (qu : List Case) (m : Map) (D : Case → Nat) : Prop where
 q : ∀ y ∈ qu, met m y
 cl : ∀ y, met m y → y ∉ qu → some y ≠ x → ∀ z, Leads rs y z → met m z ∧ D z ≤ D y + 1
 xq : ∀ c, x = some c → met m c ∧ (∀ z, Leads dn c z → met m z ∧ D z ≤ D c + 1) ∧ (∀ y, met m y → D y ≤ D c + 1) ∧ ∀ w ∈ qu, D c ≤ D w
 par : ∀ y v, mget m y = some v → (y ∈ l ∧ v = y ∧ D y = 0) ∨ (y ∉ l ∧ Leads rs v y ∧ met m v ∧ D y = D v + 1)
 src : ∀ y ∈ l, mget m y = some y
 sort : qu.Pairwise fun a b => D a ≤ D b
 near : ∀ y, met m y → ∀ w ∈ qu, D y ≤ D w + 1
 ok : ∀ y, met m y → okC T y
 nodup : (keys m).Nodup
section
variable {T : Int} {rs : Rules} {l : List Case}
theorem Part.step {x : Case} {dn : Rules} {qu : List Case} {m : Map} {D : Case → Nat} (hv : okR T rs) (P : Part T rs l (some x) dn qu m D) {r : Case × Case} (hr : r ∈ rs) :
 ∃ D', Part T rs l (some x) (dn ++ [r]) (stepR x (qu, m) r).1 (stepR x (qu, m) r).2 D' ∧ (keys (stepR x (qu, m) r).2).length + qu.length = (keys m).length + (stepR x (qu, m) r).1.length ∧ (keys m).length ≤ (keys (stepR x (qu, m) r).2).length := by
 have more : ∀ z, Leads (dn ++ [r]) x z ↔ Leads dn x z ∨ rled x r = some z := fun z => by
  rw [leads_iff, leads_iff]
  constructor
  · rintro ⟨r', h, e⟩
    rcases List.mem_append.1 h with h | h
    · exact .inl ⟨r', h, e⟩
    rw [List.mem_singleton.1 h] at e; exact .inr e
  rintro (⟨r', h, e⟩ | e)
  · exact ⟨r', List.mem_append_left _ h, e⟩
  exact ⟨r, by simp, e⟩
 obtain ⟨x1, x2, x3, x4⟩ := P.xq x rfl
 unfold stepR
 cases hy : rled x r with
 | none =>
  refine ⟨D, ⟨P.q, P.cl, fun c hc => ?_, P.par, P.src, P.sort, P.near, P.ok, P.nodup⟩, rfl, Nat.le_refl _⟩
  cases hc
  refine ⟨x1, fun z hz => ?_, x3, x4⟩
  rcases (more z).1 hz with h | h
  · exact x2 z h
  rw [hy] at h; cases h
 | some y =>
  have hl : Leads rs x y := leads_iff.2 ⟨r, hr, hy⟩
  by_cases hm : mget m y = none
  · have hn : ¬ met m y := fun h => h hm
    have hyx : ∀ {u}, met m u → u ≠ y := fun hu e => hn (e ▸ hu)
    dsimp only
    rw [if_pos hm]
    refine ⟨fun w => if w = y then D x + 1 else D w, ?_, ?_, ?_⟩
    · have old : ∀ {u}, met m u → (if u = y then D x + 1 else D u) = D u := fun hu => if_neg (hyx hu)
      refine ⟨fun u hu => ?_, fun u hu hq hx z hz => ?_, fun c hc => ?_, fun u v hu => ?_, fun u hu => ?_, ?_, fun u hu w hw => ?_, fun u hu => ?_, nodup_mput _ _ P.nodup⟩
      · rcases List.mem_append.1 hu with h | h
        · exact met_mput.2 (.inr (P.q u h))
        exact met_mput.2 (.inl (List.mem_singleton.1 h))
      · have hu' : met m u := (met_mput.1 hu).resolve_left fun e => hq (by simp [e])
        obtain ⟨a, b⟩ := P.cl u hu' (fun h => hq (List.mem_append_left _ h)) hx z hz
        rw [old a, old hu']
        exact ⟨met_mput.2 (.inr a), b⟩
      · cases hc
        rw [old x1]
        refine ⟨met_mput.2 (.inr x1), fun z hz => ?_, fun u hu => ?_, fun w hw => ?_⟩
        · rcases (more z).1 hz with h | h
          · obtain ⟨a, b⟩ := x2 z h
            rw [old a]
            exact ⟨met_mput.2 (.inr a), b⟩
          rw [hy] at h
          cases h
          rw [if_pos rfl]
          exact ⟨met_mput.2 (.inl rfl), Nat.le_refl _⟩
        · rcases met_mput.1 hu with h | h
          · rw [if_pos h]; exact Nat.le_refl _
          rw [old h]; exact x3 u h
        rcases List.mem_append.1 hw with h | h
        · rw [old (P.q w h)]; exact x4 w h
        rw [if_pos (List.mem_singleton.1 h)]; exact Nat.le_succ _
      · rw [mget_mput] at hu
        by_cases e : u = y
        · rw [if_pos e] at hu
          cases hu
          right
          refine ⟨fun h => ?_, by rw [e]; exact hl, met_mput.2 (.inr x1), ?_⟩
          · have := P.src u h
            rw [e, hm] at this
            cases this
          rw [if_pos e, old x1]
        rw [if_neg e] at hu
        rcases P.par u v hu with ⟨a, b, c⟩ | ⟨a, b, c, d⟩
        · left; rw [if_neg e]; exact ⟨a, b, c⟩
        right; rw [if_neg e, old c]; exact ⟨a, b, met_mput.2 (.inr c), d⟩
      · have := P.src u hu
        rw [mget_mput, if_neg (fun e => by rw [e, hm] at this; cases this)]
        exact this
      · rw [List.pairwise_append]
        refine ⟨P.sort.imp_of_mem fun {a b} ha hb hab => ?_, List.pairwise_singleton _ _, fun a ha b hb => ?_⟩
        · rw [old (P.q a ha), old (P.q b hb)]; exact hab
        rw [List.mem_singleton.1 hb, if_pos rfl, old (P.q a ha)]
        exact x3 a (P.q a ha)
      · have hu' : (if u = y then D x + 1 else D u) ≤ D x + 1 := by
         rcases met_mput.1 hu with h | h
         · rw [if_pos h]; exact Nat.le_refl _
         rw [old h]; exact x3 u h
        rcases List.mem_append.1 hw with h | h
        · rw [old (P.q w h)]
          have := x4 w h
          by_cases e : u = y
          · rw [if_pos e]; omega
          rw [if_neg e]
          exact P.near u ((met_mput.1 hu).resolve_left e) w h
        have e2 : (if w = y then D x + 1 else D w) = D x + 1 := if_pos (List.mem_singleton.1 h)
        rw [e2]
        omega
      rcases met_mput.1 hu with h | h
      · rw [h]; exact leads_ok hv hl
      exact P.ok u h
    · have := mget_none.1 hm
      rw [keys_mput, if_neg this]
      simp
      omega
    have := mget_none.1 hm
    rw [keys_mput, if_neg this]
    simp
  dsimp only
  rw [if_neg hm]
  refine ⟨D, ⟨P.q, P.cl, fun c hc => ?_, P.par, P.src, P.sort, P.near, P.ok, P.nodup⟩, rfl, Nat.le_refl _⟩
  cases hc
  refine ⟨x1, fun z hz => ?_, x3, x4⟩
  rcases (more z).1 hz with h | h
  · exact x2 z h
  rw [hy] at h
  cases h
  exact ⟨hm, x3 y hm⟩
theorem Part.begin {x : Case} {qu : List Case} {m : Map} {D : Case → Nat} (P : Part T rs l none [] (x :: qu) m D) : Part T rs l (some x) [] qu m D := by
 have hs := List.pairwise_cons.1 P.sort
 refine ⟨fun y hy => P.q y (by simp [hy]), fun y hy hq hx => P.cl y hy (fun h => ?_) (fun h => by cases h), fun c hc => ?_, P.par, P.src, hs.2, fun y hy w hw => P.near y hy w (by simp [hw]), P.ok, P.nodup⟩
 · rcases List.mem_cons.1 h with e | h
   · exact hx (by rw [e])
   exact hq h
 cases hc
 exact ⟨P.q x (by simp), fun z hz => (by obtain ⟨r, hr, _⟩ := hz; cases hr), fun y hy => P.near y hy x (by simp), hs.1⟩
theorem Part.finish {x : Case} {qu : List Case} {m : Map} {D : Case → Nat} (P : Part T rs l (some x) rs qu m D) : Part T rs l none [] qu m D := by
 refine ⟨P.q, fun y hy hq _ z hz => ?_, fun c hc => (by cases hc), P.par, P.src, P.sort, P.near, P.ok, P.nodup⟩
 by_cases e : y = x
 · subst e; exact (P.xq y rfl).2.1 z hz
 exact P.cl y hy hq (fun h => e (Option.some.inj h)) z hz
theorem Part.small {x : Option Case} {dn : Rules} {qu : List Case} {m : Map} {D : Case → Nat} (P : Part T rs l x dn qu m D) : (keys m).length ≤ 2 * T.toNat := by
 rw [← len_nodes]
 refine len_le_sub P.nodup fun y hy => mem_nodes (P.ok y fun h => mget_none.1 h hy)
theorem eq_code (a b : Case) : ((a.1 == b.1) && ((a.2 == b.2) && true)) = decide (a = b) := by
 rw [Bool.eq_iff_iff]
 simp [Prod.ext_iff]
theorem F72_eq (c : Case) : F72 c.1 c.2 = some (ctr c) := rfl
variable {p3 : List Case} {r1 : List Case}
theorem scan_loop (hv : okR T rs) {x : Case} (hrs : rs.length ≤ 100) : ∀ (d v q : Nat) (m : Map) (Q : List Case) (D : Case → Nat), v + d = rs.length → q ≤ Q.length → Q.length ≤ 900000 + v → Part T rs l (some x) (rs.take v) (Q.drop q) m D →
 ∃ q' Q' m' D', F67l2 T rs p3 x q (v : Int) m Q = some (q', Q', m') ∧ q' ≤ Q'.length ∧ Q'.length ≤ Q.length + d ∧ Part T rs l (some x) rs (Q'.drop q') m' D' ∧ (keys m').length + (Q.drop q).length = (keys m).length + (Q'.drop q').length ∧ (keys m).length ≤ (keys m').length := by
 intro d
 induction d with
 | zero =>
  intro v q m Q D hd hq hQ P
  refine ⟨q, Q, m, D, by rw [F67l2, if_neg (by simp; omega)], hq, by omega, ?_, rfl, Nat.le_refl _⟩
  rwa [List.take_of_length_le (by omega)] at P
 | succ d ih =>
  intro v q m Q D hd hq hQ P
  have hlt : v < rs.length := by omega
  have hget : rs.getD v ((0, false), (0, false)) = rs[v] := by rw [List.getD_eq_getElem?_getD, List.getElem?_eq_getElem hlt]; rfl
  have hmem : rs[v] ∈ rs := List.getElem_mem _
  have htake : rs.take (v + 1) = rs.take v ++ [rs[v]] := by rw [List.take_add_one, List.getElem?_eq_getElem hlt]; rfl
  obtain ⟨D', P', k1, k2⟩ := P.step hv hmem
  rw [← htake] at P'
  have w1 : w64 ((v : Int) + 1) = ((v + 1 : Nat) : Int) := by rw [w64_in (by omega) (by omega)]; omega
  rw [F67l2, if_pos (by simp; omega), if_pos ⟨by omega, by omega⟩, w1]
  simp only [Option.bind_eq_bind, Option.bind_some, show ((v : Int)).toNat = v from rfl, hget, F72_eq, eq_code, decide_eq_true_eq]
  generalize hr : rs[v] = r at *
  have key : ∀ z, rled x r = some z → ∃ q' Q' m' D', ((if (!(Option.isSome (mget m (z.1, z.2)))) = true then if q ≤ Q.length then if q ≤ 1000000000 then if (Q.drop q).length ≤ 1000000000 then some (0, Q.drop q ++ [(z.1, z.2)], mput m (z.1, z.2) (x.1, x.2)) else none else none else none else some (q, Q, m)).bind fun m297 => F67l2 T rs p3 x m297.1 ((v + 1 : Nat) : Int) m297.2.2 m297.2.1) = some (q', Q', m') ∧ q' ≤ Q'.length ∧ Q'.length ≤ Q.length + (d + 1) ∧ Part T rs l (some x) rs (Q'.drop q') m' D' ∧ (keys m').length + (Q.drop q).length = (keys m).length + (Q'.drop q').length ∧ (keys m).length ≤ (keys m').length := by
   intro z hz
   have hdl : (Q.drop q).length ≤ Q.length := by rw [List.length_drop]; omega
   by_cases hm : mget m z = none
   · have e : stepR x (Q.drop q, m) r = (Q.drop q ++ [z], mput m z x) := by unfold stepR; rw [hz]; dsimp only; rw [if_pos hm]
     rw [e] at P' k1 k2
     rw [if_pos (by rw [hm]; rfl), if_pos hq, if_pos (by omega), if_pos (by omega)]
     simp only [Option.bind_some]
     obtain ⟨q', Q', m', D2, f, a1, a2, a3, a4, a5⟩ := ih (v + 1) 0 (mput m z x) (Q.drop q ++ [z]) D' (by omega) (Nat.zero_le _) (by simp; omega) (by simpa using P')
     refine ⟨q', Q', m', D2, f, a1, ?_, a3, ?_, by dsimp only at k2; omega⟩
     · simp at a2; omega
     dsimp only at k1
     simp only [List.drop_zero] at a4
     omega
   have e : stepR x (Q.drop q, m) r = (Q.drop q, m) := by unfold stepR; rw [hz]; dsimp only; rw [if_neg hm]
   rw [e] at P'
   rw [if_neg (by simpa [Option.isSome_iff_ne_none] using hm)]
   simp only [Option.bind_some]
   obtain ⟨q', Q', m', D2, f, a1, a2, a3, a4, a5⟩ := ih (v + 1) q m Q D' (by omega) hq (by omega) P'
   exact ⟨q', Q', m', D2, f, a1, by omega, a3, a4, a5⟩
  by_cases c1 : ctr x = r.1
  · rw [if_pos c1]
    simp only [Option.bind_some]
    exact key r.2 (by unfold rled; rw [if_pos c1])
  rw [if_neg c1]
  by_cases c2 : ctr x = r.2
  · rw [if_pos c2]
    simp only [Option.bind_some]
    exact key r.1 (by unfold rled; rw [if_neg c1, if_pos c2])
  rw [if_neg c2]
  simp only [Option.bind_some]
  have e : stepR x (Q.drop q, m) r = (Q.drop q, m) := by unfold stepR rled; rw [if_neg c1, if_neg c2]
  rw [e] at P'
  obtain ⟨q', Q', m', D2, f, a1, a2, a3, a4, a5⟩ := ih (v + 1) q m Q D' (by omega) hq (by omega) P'
  exact ⟨q', Q', m', D2, f, a1, by omega, a3, a4, a5⟩
theorem queue_loop (hv : okR T rs) (hrs : rs.length ≤ 100) : ∀ (d q : Nat) (m : Map) (Q : List Case) (D : Case → Nat), 2 * (2 * T.toNat - (keys m).length) + (Q.drop q).length ≤ d → q ≤ Q.length → Q.length + 100 * d ≤ 900000 → Part T rs l none [] (Q.drop q) m D →
 ∃ m' D', F67l1 T rs p3 q m Q = some m' ∧ Part T rs l none [] [] m' D' := by
 intro d
 induction d with
 | zero =>
  intro q m Q D hd hq hQ P
  have h0 : Q.drop q = [] := List.length_eq_zero_iff.1 (by omega)
  rw [h0] at P
  exact ⟨m, D, by rw [F67l1, h0, if_neg (by simp)], P⟩
 | succ d ih =>
  intro q m Q D hd hq hQ P
  by_cases h0 : Q.drop q = []
  · rw [h0] at P
    exact ⟨m, D, by rw [F67l1, h0, if_neg (by simp)], P⟩
  have hlt : q < Q.length := by
   refine Nat.lt_of_not_le fun h => h0 (List.drop_eq_nil_of_le h)
  have hdr : Q.drop q = Q[q] :: Q.drop (q + 1) := List.drop_eq_getElem_cons hlt
  have hdl : (Q.drop q).length = Q.length - q := List.length_drop
  have hget : (Q.drop q).getD (Int.toNat 0) (0, false) = Q[q] := by rw [hdr]; rfl
  rw [F67l1, if_pos (by simp; omega), if_pos ⟨by omega, by omega⟩]
  simp only [Option.bind_eq_bind, Option.bind_some]
  rw [if_pos ⟨by omega, by omega⟩, if_pos (by omega), hget]
  rw [hdr] at P
  obtain ⟨q', Q', m', D', f, a1, a2, a3, a4, a5⟩ := scan_loop (p3 := p3) hv hrs rs.length 0 (q + 1) m Q D (by omega) (by omega) (by omega) (by simpa using P.begin)
  rw [show q + Int.toNat 1 = q + 1 from rfl, show (0 : Int) = ((0 : Nat) : Int) from rfl, f]
  simp only [Option.bind_some]
  have hsm := a3.small
  have h1 : (Q.drop (q + 1)).length = Q.length - (q + 1) := List.length_drop
  exact ih q' m' Q' D' (by omega) a1 (by omega) a3.finish
theorem src_loop (hl : l.length ≤ 1000) : ∀ (d v : Nat) (m : Map), v + d = l.length → (∀ y u, mget m y = some u → u = y ∧ y ∈ l) → (∀ y ∈ l.take v, mget m y = some y) → (keys m).Nodup →
 ∃ m', F67l0 T rs l r1 (v : Int) m = some m' ∧ (∀ y u, mget m' y = some u → u = y ∧ y ∈ l) ∧ (∀ y ∈ l, mget m' y = some y) ∧ (keys m').Nodup := by
 intro d
 induction d with
 | zero =>
  intro v m hd h1 h2 h3
  refine ⟨m, by rw [F67l0, if_neg (by simp; omega)], h1, ?_, h3⟩
  rwa [List.take_of_length_le (by omega)] at h2
 | succ d ih =>
  intro v m hd h1 h2 h3
  have hlt : v < l.length := by omega
  have hget : l.getD v (0, false) = l[v] := by rw [List.getD_eq_getElem?_getD, List.getElem?_eq_getElem hlt]; rfl
  have w1 : w64 ((v : Int) + 1) = ((v + 1 : Nat) : Int) := by rw [w64_in (by omega) (by omega)]; omega
  rw [F67l0, if_pos (by simp; omega), if_pos ⟨by omega, by omega⟩, w1]
  simp only [Option.bind_eq_bind, Option.bind_some, show ((v : Int)).toNat = v from rfl, hget]
  refine ih (v + 1) (mput m l[v] l[v]) (by omega) (fun y u hu => ?_) (fun y hy => ?_) (nodup_mput _ _ h3)
  · rw [mget_mput] at hu
    by_cases e : y = l[v]
    · rw [if_pos e] at hu
      cases hu
      exact ⟨e.symm, by rw [e]; exact List.getElem_mem _⟩
    rw [if_neg e] at hu
    exact h1 y u hu
  rw [mget_mput]
  by_cases e : y = l[v]
  · rw [if_pos e, e]
  rw [if_neg e]
  rw [List.take_add_one, List.getElem?_eq_getElem hlt] at hy
  rcases List.mem_append.1 hy with h | h
  · exact h2 y h
  exact absurd (by simpa using h) e
structure Found (T : Int) (rs : Rules) (l : List Case) (m : Map) (D : Case → Nat) : Prop where
 from_ : ∀ y, met m y ↔ From rs l y
 par : ∀ y v, mget m y = some v → (y ∈ l ∧ v = y ∧ D y = 0) ∨ (y ∉ l ∧ Leads rs v y ∧ met m v ∧ D y = D v + 1)
 near : ∀ y z, met m y → Leads rs y z → D z ≤ D y + 1
 ok : ∀ y, met m y → okC T y
 nodup : (keys m).Nodup
 small : m.length ≤ 2 * T.toNat
theorem reach_ok {T0 : Map} (hv : okR T rs) (hT : T ≤ 24) (hrs : rs.length ≤ 100) (hl : l.length ≤ 100) (ho : ∀ y ∈ l, okC T y) : ∃ m D, F67 1 T rs T0 l = some m ∧ Found T rs l m D := by
 obtain ⟨m0, f0, g1, g2, g3⟩ := src_loop (l := l) (T := T) (rs := rs) (r1 := l) (by omega) l.length 0 [] (by omega) (fun y u h => by cases h) (fun y h => by cases h) List.nodup_nil
 have hmem : ∀ y, met m0 y → y ∈ l := fun y hy => by
  cases h : mget m0 y with
  | none => exact absurd h hy
  | some u => exact (g1 y u h).2
 have P0 : Part T rs l none [] (l.drop 0) m0 (fun _ => 0) := by
  rw [List.drop_zero]
  refine ⟨fun y hy => (by unfold met; rw [g2 y hy]; simp), fun y hy hq => absurd (hmem y hy) hq, fun c hc => (by cases hc), fun y v h => .inl ⟨(g1 y v h).2, (g1 y v h).1, rfl⟩, g2, ?_, fun _ _ _ _ => Nat.zero_le _, fun y hy => ho y (hmem y hy), g3⟩
  exact List.pairwise_of_forall (fun _ _ => Nat.le_refl _)
 obtain ⟨m, D, f1, P⟩ := queue_loop (p3 := l) hv hrs (2 * (2 * T.toNat) + l.length) 0 m0 l (fun _ => 0) (by rw [List.drop_zero]; omega) (Nat.zero_le _) (by omega) P0
 refine ⟨m, D, ?_, ⟨fun y => ⟨fun hy => ?_, fun hf => ?_⟩, P.par, fun y z hy hz => (P.cl y hy (by simp) (fun h => by cases h) z hz).2, P.ok, P.nodup, by have := P.small; rwa [keys, List.length_map] at this⟩⟩
 · show F67b (F67 0) T rs T0 l = some m
   unfold F67b F56
   rw [if_pos (by omega)]
   simp only [Option.bind_eq_bind, Option.bind_some]
   rw [show (0 : Int) = ((0 : Nat) : Int) from rfl, f0]
   simp only [Option.bind_some]
   rw [f1]
   rfl
 · -- by depth
   have go : ∀ (n : Nat) (y : Case), D y ≤ n → met m y → From rs l y := by
    intro n
    induction n with
    | zero =>
     intro y hn hy
     cases h : mget m y with
     | none => exact absurd h hy
     | some v =>
      rcases P.par y v h with ⟨a, _, _⟩ | ⟨_, _, _, d⟩
      · exact ⟨y, a, .refl⟩
      omega
    | succ n ih =>
     intro y hn hy
     cases h : mget m y with
     | none => exact absurd h hy
     | some v =>
      rcases P.par y v h with ⟨a, _, _⟩ | ⟨_, b, c, d⟩
      · exact ⟨y, a, .refl⟩
      obtain ⟨x, hx, hr⟩ := ih v (by omega) c
      exact ⟨x, hx, hr.step b⟩
   exact go _ y (Nat.le_refl _) hy
 obtain ⟨x, hx, hr⟩ := hf
 induction hr with
 | refl => unfold met; rw [P.src x hx]; simp
 | step _ e ih => exact (P.cl _ ih (by simp) (fun h => by cases h) _ e).1
end
end Go.Proofs.Ytiaippkjgmccoaa.plain
