/- Chains: as short as stated, and accepted as stated. -/
import Derived.Test.YtiaippkjgmccoaaLK4
import Derived.Test.YtiaippkjgmccoaaKF
set_option linter.unusedVariables false
namespace Go.Proofs.Ytiaippkjgmccoaa.plain
open Go Go.Cl
def at_ (u : List Case) (i : Nat) : Case := u.getD i (0, false)
theorem at_mem {u : List Case} {i : Nat} (h : i < u.length) : at_ u i ∈ u := by
 unfold at_; rw [cons_get _ h]; exact List.getElem_mem _
theorem at_left {u v : List Case} {i : Nat} (h : i < u.length) : at_ (u ++ v) i = at_ u i := by
 unfold at_; rw [List.getD_eq_getElem?_getD, List.getD_eq_getElem?_getD, List.getElem?_append_left h]
theorem at_last {u : List Case} {c : Case} : at_ (u ++ [c]) u.length = c := by
 unfold at_; rw [List.getD_eq_getElem?_getD, List.getElem?_append_right (Nat.le_refl _)]; simp
theorem at_set {u : List Case} {i k : Nat} {c : Case} (h : i < u.length) : at_ (u.set i c) k = if k = i then c else at_ u k := by
 unfold at_
 rw [List.getD_eq_getElem?_getD, List.getD_eq_getElem?_getD, List.getElem?_set]
 by_cases e : k = i
 · subst e; rw [if_pos rfl, if_pos rfl, if_pos h]; rfl
 rw [if_neg e, if_neg (fun h => e h.symm)]
theorem at_mem_iff {u : List Case} {y : Case} : y ∈ u ↔ ∃ i, i < u.length ∧ at_ u i = y := by
 constructor
 · intro h
   obtain ⟨i, hi, e⟩ := List.mem_iff_getElem.1 h
   exact ⟨i, hi, by unfold at_; rw [cons_get _ hi]; exact e⟩
 rintro ⟨i, hi, e⟩; rw [← e]; exact at_mem hi
section
variable {T : Int} {rs : Rules} {l : List Case} {x : Case} {m : Map} {D : Case → Nat}
theorem up_loop (F : Found T rs [x] m D) {N : Nat} (hN : N ≤ 1000) : ∀ (d : Nat) (f : Bool) (u : List Case) (c : Case), D c = d → met m c → u.length + d = N + 1 → 0 < u.length → at_ u (u.length - 1) = c → (∀ i, i + 1 < u.length → Leads rs (at_ u (i + 1)) (at_ u i)) → (∀ y ∈ u, okC T y) →
 ∃ f' u', F69l0 T rs m f u c.1 c.2 = some (f', u') ∧ u'.length = N + 1 ∧ at_ u' N = x ∧ at_ u' 0 = at_ u 0 ∧ (∀ i, i + 1 < u'.length → Leads rs (at_ u' (i + 1)) (at_ u' i)) ∧ ∀ y ∈ u', okC T y := by
 intro d
 induction d with
 | zero =>
  intro f u c hd hm hlen hpos hlast hup hok
  cases hv : mget m c with
  | none => exact absurd hv hm
  | some v =>
   rcases F.par c v hv with ⟨a, b, _⟩ | ⟨_, _, _, b⟩
   · refine ⟨f, u, ?_, by omega, ?_, rfl, hup, hok⟩
     · rw [F69l0]
       simp only [Option.bind_eq_bind, Option.bind_some]
       rw [show mget m (c.1, c.2) = some v from hv, b]
       simp only [Option.getD_some, eq_code]
       rw [if_neg (by simp)]
     rw [show N = u.length - 1 by omega, hlast]; exact List.mem_singleton.1 a
   omega
 | succ d ih =>
  intro f u c hd hm hlen hpos hlast hup hok
  cases hv : mget m c with
  | none => exact absurd hv hm
  | some v =>
   rcases F.par c v hv with ⟨_, _, b⟩ | ⟨_, e, a, b⟩
   · omega
   have hne : v ≠ c := fun h => by rw [h] at b; omega
   obtain ⟨f', u', g, k1, k2, k3, k4, k5⟩ := ih false (u ++ [v]) v (by omega) a (by simp; omega) (by simp) (by rw [List.length_append]; exact at_last) (fun i hi => by
    rw [List.length_append] at hi
    by_cases h1 : i + 1 < u.length
    · rw [at_left h1, at_left (by omega)]; exact hup i h1
    · have h2 : i + 1 = u.length := by simp at hi; omega
      rw [h2, at_last, at_left (by omega), show i = u.length - 1 by omega, hlast]
      exact e) (fun y hy => by
    rcases List.mem_append.1 hy with h | h
    · exact hok y h
    rw [List.mem_singleton.1 h]; exact F.ok v a)
   refine ⟨f', u', ?_, k1, k2, by rw [k3, at_left hpos], k4, k5⟩
   rw [← g, F69l0]
   simp only [Option.bind_eq_bind, Option.bind_some]
   rw [show mget m (c.1, c.2) = some v from hv]
   simp only [Option.getD_some, eq_code]
   rw [if_pos (by simp [hne]), if_pos (by omega)]
theorem rev_loop {r19 : Bool × List Case} {u : List Case} {n : Nat} (hn : n ≤ 1000) : ∀ (d i j : Nat) (w : List Case), w.length = n → i + j + 1 = n → j + 1 ≤ i + d → (∀ k, k < n → at_ w k = if i ≤ k ∧ k ≤ j then at_ u k else at_ u (n - 1 - k)) →
 ∃ w', F69l1 T rs m r19 i j w = some w' ∧ w'.length = n ∧ ∀ k, k < n → at_ w' k = at_ u (n - 1 - k) := by
 have fin : ∀ (i j : Nat) (w : List Case), w.length = n → i + j + 1 = n → ¬ i < j → (∀ k, k < n → at_ w k = if i ≤ k ∧ k ≤ j then at_ u k else at_ u (n - 1 - k)) → ∃ w', F69l1 T rs m r19 i j w = some w' ∧ w'.length = n ∧ ∀ k, k < n → at_ w' k = at_ u (n - 1 - k) := fun i j w hw hij hlt h => by
  refine ⟨w, by rw [F69l1, if_neg (by simp; omega)], hw, fun k hk => ?_⟩
  rw [h k hk]
  split
  · rw [show n - 1 - k = k by omega]
  rfl
 intro d
 induction d with
 | zero => intro i j w hw hij hd h; exact fin i j w hw hij (by omega) h
 | succ d ih =>
  intro i j w hw hij hd h
  by_cases hlt : i < j
  · have w1 : w64 ((i : Int) + 1) = ((i + 1 : Nat) : Int) := by rw [w64_in (by omega) (by omega)]; omega
    have w2 : w64 ((j : Int) - 1) = ((j - 1 : Nat) : Int) := by rw [w64_in (by omega) (by omega)]; omega
    obtain ⟨w', g, k1, k2⟩ := ih (i + 1) (j - 1) ((w.set i (at_ w j)).set j (at_ w i)) (by simp; exact hw) (by omega) (by omega) (fun k hk => by
     have hi' : at_ w i = at_ u i := by rw [h i (by omega), if_pos ⟨Nat.le_refl _, by omega⟩]
     have hj' : at_ w j = at_ u j := by rw [h j (by omega), if_pos ⟨by omega, Nat.le_refl _⟩]
     rw [at_set (by rw [List.length_set]; omega), at_set (by omega), hi', hj', h k hk]
     by_cases c1 : k = j
     · rw [if_pos c1, if_neg (by omega), show n - 1 - k = i by omega]
     rw [if_neg c1]
     by_cases c2 : k = i
     · rw [if_pos c2, if_neg (by omega), show n - 1 - k = j by omega]
     rw [if_neg c2]
     by_cases c3 : i ≤ k ∧ k ≤ j
     · rw [if_pos c3, if_pos (by omega)]
     rw [if_neg c3, if_neg (by omega)])
    refine ⟨w', ?_, k1, k2⟩
    rw [← g, F69l1, if_pos (by simp; omega), if_pos ⟨by omega, by omega⟩]
    simp only [Option.bind_eq_bind, Option.bind_some]
    rw [if_pos ⟨by omega, by omega⟩, w1, w2]
    rfl
  exact fin i j w hw hij hlt h
def IsWalk (rs : Rules) (a : List Case) : Prop := ∀ i, i + 1 < a.length → Leads rs (at_ a i) (at_ a (i + 1))
theorem F69_eq (F : Found T rs [x] m D) {y : Case} (hy : met m y) (hD : D y ≤ 500) : ∃ a, F69 T rs m y.1 y.2 = some a ∧ a.length = D y + 1 ∧ at_ a 0 = x ∧ at_ a (D y) = y ∧ IsWalk rs a ∧ ∀ c ∈ a, okC T c := by
 obtain ⟨f, u, g, k1, k2, k3, k4, k5⟩ := up_loop F (N := D y) (by omega) (D y) true [y] y rfl hy (by simp; omega) (by simp) rfl (fun i hi => by simp at hi) (fun c hc => by rw [List.mem_singleton.1 hc]; exact F.ok y hy)
 obtain ⟨w, h, q1, q2⟩ := rev_loop (T := T) (rs := rs) (m := m) (r19 := (f, u)) (u := u) (n := D y + 1) (by omega) (D y + 1) 0 (D y) u k1 (by omega) (by omega) (fun k hk => by rw [if_pos ⟨by omega, by omega⟩])
 refine ⟨w, ?_, q1, ?_, ?_, fun i hi => ?_, fun c hc => ?_⟩
 · unfold F69
   rw [show ([(y.1, y.2)] : List Case) = [y] from rfl, g]
   simp only [Option.bind_eq_bind, Option.bind_some]
   rw [show w64 ((u.length : Int) - 1) = ((D y : Nat) : Int) by rw [w64_in (by omega) (by omega)]; omega, show (0 : Int) = ((0 : Nat) : Int) from rfl, h]
   simp only [Option.bind_some]
   rw [if_pos (by rw [q1, k1])]
 · rw [q2 0 (by omega), ← k2]; rfl
 · rw [q2 (D y) (by omega), show D y + 1 - 1 - D y = 0 by omega, k3]; rfl
 · rw [q2 i (by omega), q2 (i + 1) (by omega)]
   have := k4 (D y - (i + 1)) (by omega)
   rw [show D y - (i + 1) + 1 = D y + 1 - 1 - i by omega] at this
   rw [show D y + 1 - 1 - (i + 1) = D y - (i + 1) by omega]
   exact this
 obtain ⟨i, hi, e⟩ := at_mem_iff.1 hc
 rw [q2 i (by omega)] at e
 rw [← e]
 exact k5 _ (at_mem (by omega))
theorem exact_ {out : List Int} (hv : okR T rs) (hx : okC T x) (F : Found T rs [x] m D) (G : Far T rs x out) {y : Case} (hy : met m y) : lv out y = D y + 1 := by
 have up : ∀ (n : Nat) (y : Case), D y = n → met m y → 1 ≤ lv out y ∧ lv out y ≤ n + 1 := by
  intro n
  induction n with
  | zero =>
   intro y hd hm
   cases hv' : mget m y with
   | none => exact absurd hv' hm
   | some v =>
    rcases F.par y v hv' with ⟨a, _, _⟩ | ⟨_, _, _, b⟩
    · rw [(G.one y (F.ok y hm)).2 (List.mem_singleton.1 a)]; exact ⟨by decide, by decide⟩
    omega
  | succ n ih =>
   intro y hd hm
   cases hv' : mget m y with
   | none => exact absurd hv' hm
   | some v =>
    rcases F.par y v hv' with ⟨_, _, b⟩ | ⟨_, e, a, b⟩
    · omega
    obtain ⟨i1, i2⟩ := ih v (by omega) a
    have := G.cl v (F.ok v a) i1 y e
    push_cast
    omega
 have low : ∀ (n : Nat) (y : Case), okC T y → lv out y = n + 1 → D y ≤ n := by
  intro n
  induction n with
  | zero =>
   intro y hok e
   have ey := (G.one y hok).1 (by simpa using e)
   have hm : met m y := (F.from_ y).2 (by rw [ey]; exact from_one.2 .refl)
   cases hv' : mget m y with
   | none => exact absurd hv' hm
   | some v =>
    rcases F.par y v hv' with ⟨_, _, b⟩ | ⟨a, _, _, _⟩
    · omega
    exact absurd (by rw [ey]; simp) a
  | succ n ih =>
   intro y hok e
   obtain ⟨z, hz, e1, e2⟩ := G.par y hok ((n : Int) + 1) (by omega) (by rw [e]; push_cast; rfl)
   have i := ih z hz e1
   have hm : met m z := (F.from_ z).2 (from_one.2 ((G.iff hv hx hz).1 (by omega)))
   have := F.near z y hm e2
   omega
 obtain ⟨u1, u2⟩ := up (D y) y rfl hy
 have := low (lv out y - 1).toNat y (F.ok y hy) (by omega)
 omega
theorem F83_loop (hrs : rs.length ≤ 1000) (a b : Case) : ∀ (d v : Nat), v + d = rs.length → (∃ n : Int, F83l0 rs a.1 a.2 b.1 b.2 v = some (.inl n) ∧ 0 ≤ n ∧ (a, b) ∈ rs.drop v) ∨ (F83l0 rs a.1 a.2 b.1 b.2 v = some (.inr ()) ∧ (a, b) ∉ rs.drop v) := by
 intro d
 induction d with
 | zero =>
  intro v hd
  right
  exact ⟨by rw [F83l0, if_neg (by simp; omega)], fun hc => by rw [List.drop_eq_nil_of_le (by omega)] at hc; cases hc⟩
 | succ d ih =>
  intro v hd
  have hlt : v < rs.length := by omega
  have hdr : rs.drop v = rs[v] :: rs.drop (v + 1) := List.drop_eq_getElem_cons hlt
  rw [F83l0, if_pos (by simp; omega), if_pos ⟨by omega, by omega⟩, w64_up (by omega)]
  simp only [Option.bind_eq_bind, Option.bind_some, show ((v : Int)).toNat = v from rfl, cons_get _ hlt, eq_code]
  rw [hdr]
  by_cases h : (a, b) = rs[v]
  · rw [if_pos (by rw [← h]; simp)]
    exact .inl ⟨v, rfl, by omega, by rw [h]; exact List.mem_cons_self⟩
  rw [if_neg (fun g => h (by simp at g; exact Prod.ext g.1 g.2))]
  rcases ih (v + 1) (by omega) with ⟨n, f, g, k⟩ | ⟨f, g⟩
  · exact .inl ⟨n, f, g, List.mem_cons_of_mem _ k⟩
  refine .inr ⟨f, fun k => ?_⟩
  rcases List.mem_cons.1 k with e | k
  · exact h e
  exact g k
theorem F73_eq (hrs : rs.length ≤ 1000) (a b : Case) : F73 rs a.1 a.2 b.1 b.2 = some (decide ((a, b) ∈ rs)) := by
 unfold F73 F83
 have := F83_loop hrs a b rs.length 0 (by omega)
 rw [List.drop_zero] at this
 rw [show (0 : Int) = ((0 : Nat) : Int) from rfl]
 rcases this with ⟨n, f, g, k⟩ | ⟨f, k⟩
 · rw [f, decide_eq_true k]
   simp only [Option.bind_eq_bind, Option.bind_some]
   rw [decide_eq_true (show n ≥ ((0 : Nat) : Int) by omega)]
 rw [f, decide_eq_false k]
 rfl
theorem leads_mem {y z : Case} : Leads rs y z ↔ (ctr y, z) ∈ rs ∨ (z, ctr y) ∈ rs := by
 unfold Leads
 constructor
 · rintro ⟨r, hr, ⟨a, b⟩ | ⟨a, b⟩⟩
   · left; rw [← a, ← b]; exact hr
   right; rw [← a, ← b]; exact hr
 rintro (h | h)
 · exact ⟨_, h, .inl ⟨rfl, rfl⟩⟩
 exact ⟨_, h, .inr ⟨rfl, rfl⟩⟩
open Classical in
noncomputable def ver (T : Int) (rs : Rules) (l : List Case) : Int :=
 if chk T rs ≠ 0 then chk T rs else if l.length = 0 then 2 else if l.length > 100 then 3 else if inC T l = false then 6 else if IsWalk rs l then 0 else 14
theorem walk_loop (hrs : rs.length ≤ 1000) (hl : l.length ≤ 1000) : ∀ (d v : Nat), v + d + 1 = l.length → (F30l0 T rs l v = some (.inr ()) ∧ ∀ i, v ≤ i → i + 1 < l.length → Leads rs (at_ l i) (at_ l (i + 1))) ∨ (F30l0 T rs l v = some (.inl ()) ∧ ¬ IsWalk rs l) := by
 intro d
 induction d with
 | zero =>
  intro v hd
  left
  exact ⟨by rw [F30l0, if_neg (by simp; omega)], fun i h1 h2 => by omega⟩
 | succ d ih =>
  intro v hd
  have e1 : List.getD (List.drop (Int.toNat 1) l) v (0, false) = at_ l (v + 1) := by
   unfold at_
   rw [List.getD_eq_getElem?_getD, List.getD_eq_getElem?_getD, List.getElem?_drop, show Int.toNat 1 + v = v + 1 by simp; omega]
  have c1 : (List.drop (Int.toNat 1) l).length = l.length - 1 := List.length_drop
  rw [F30l0, if_pos (by rw [c1]; simp; omega), if_pos ⟨by omega, by rw [c1]; omega⟩, w64_up (by omega)]
  simp only [Option.bind_eq_bind, Option.bind_some, show ((v : Int)).toNat = v from rfl, e1]
  rw [if_pos ⟨by omega, by omega⟩, show l.getD v (0, false) = at_ l v from rfl, F72_eq (at_ l v)]
  simp only [Option.bind_some]
  rw [F73_eq hrs (ctr (at_ l v)) (at_ l (v + 1)), F73_eq hrs (at_ l (v + 1)) (ctr (at_ l v))]
  simp only [Option.bind_some]
  have next : Leads rs (at_ l v) (at_ l (v + 1)) → (F30l0 T rs l ((v + 1 : Nat) : Int) = some (.inr ()) ∧ ∀ i, v ≤ i → i + 1 < l.length → Leads rs (at_ l i) (at_ l (i + 1))) ∨ (F30l0 T rs l ((v + 1 : Nat) : Int) = some (.inl ()) ∧ ¬ IsWalk rs l) := fun hv => by
   rcases ih (v + 1) (by omega) with ⟨f, g⟩ | ⟨f, g⟩
   · refine .inl ⟨f, fun i h1 h2 => ?_⟩
     by_cases e : i = v
     · rw [e]; exact hv
     exact g i (by omega) h2
   exact .inr ⟨f, g⟩
  by_cases h1 : (ctr (at_ l v), at_ l (v + 1)) ∈ rs
  · rw [decide_eq_true h1]
    exact next (leads_mem.2 (.inl h1))
  rw [decide_eq_false h1]
  by_cases h2 : (at_ l (v + 1), ctr (at_ l v)) ∈ rs
  · rw [decide_eq_true h2]
    exact next (leads_mem.2 (.inr h2))
  rw [decide_eq_false h2]
  refine .inr ⟨rfl, fun hw => ?_⟩
  rcases leads_mem.1 (hw v (by omega)) with h | h
  · exact h1 h
  exact h2 h
theorem F30_eq (hrs : rs.length ≤ 1000) (hl : l.length ≤ 1000) : F30 T rs l = some (ver T rs l) := by
 have h3' : decide ((l.length : Int) > 100) = decide (l.length > 100) := by rw [decide_eq_decide]; omega
 have h4' : ((l.length : Int) == 0) = decide (l.length = 0) := by rw [Bool.eq_iff_iff]; simp
 unfold F30 ver
 rw [F26_eq hrs, F64_eq hl, h3', h4']
 simp only [Option.bind_eq_bind, Option.bind_some]
 by_cases h : chk T rs = 0
 · simp only [h, bne_self_eq_false, Bool.false_eq_true, if_false, ne_eq, not_true_eq_false, decide_eq_true_eq]
   by_cases h0 : l.length = 0
   · rw [if_pos h0, if_pos h0]
   rw [if_neg h0, if_neg h0]
   by_cases h3 : l.length > 100
   · rw [if_pos h3, if_pos h3]
   rw [if_neg h3, if_neg h3]
   cases hi : inC T l
   · rfl
   simp only [Bool.not_true, Bool.false_eq_true, if_false, Bool.true_eq_false]
   rw [if_pos ⟨by omega, by omega⟩, show (0 : Int) = ((0 : Nat) : Int) from rfl]
   rcases walk_loop (T := T) hrs hl (l.length - 1) 0 (by omega) with ⟨f, g⟩ | ⟨f, g⟩
   · rw [f, if_pos (c := IsWalk rs l) (fun i hi => g i (Nat.zero_le _) hi)]; rfl
   rw [f, if_neg g]; rfl
 rw [if_pos (by simpa using h), if_pos h]
end
end Go.Proofs.Ytiaippkjgmccoaa.plain
