/- Rules in another order; a thing replaced by its contrary; one more rule. -/
import Derived.Test.YtiaippkjgmccoaaLKa
set_option linter.unusedVariables false
set_option maxRecDepth 100000
namespace Go.Proofs.Ytiaippkjgmccoaa.plain
open Go Go.Cl
section
variable {T : Int} {rs rs' : Rules} {l : List Case} {k : Int}
def rev (r : Case × Case) : Case × Case := (r.2, r.1)
structure Turned (rs rs' : Rules) : Prop where
 to : ∀ r ∈ rs, rev r ∈ rs'
 back : ∀ r ∈ rs', rev r ∈ rs
theorem Turned.leads (h : Turned rs rs') {x y : Case} : Leads rs' x y ↔ Leads rs x y := by
 constructor
 · rintro ⟨r, hr, h1 | h1⟩
   · exact ⟨rev r, h.back r hr, .inr h1⟩
   exact ⟨rev r, h.back r hr, .inl h1⟩
 rintro ⟨r, hr, h1 | h1⟩
 · exact ⟨rev r, h.to r hr, .inr h1⟩
 exact ⟨rev r, h.to r hr, .inl h1⟩
theorem Turned.reach (h : Turned rs rs') {x y : Case} : Reach rs' x y ↔ Reach rs x y := by
 constructor
 · intro g
   induction g with
   | refl => exact .refl
   | step _ e ih => exact ih.step (h.leads.1 e)
 intro g
 induction g with
 | refl => exact .refl
 | step _ e ih => exact ih.step (h.leads.2 e)
theorem ag_of (h : Agrees rs l ↔ Agrees rs' l) : ag rs' l = ag rs l := by unfold ag; rw [decide_eq_decide]; exact h.symm
theorem Turned.ag (h : Turned rs rs') (l : List Case) : ag rs' l = ag rs l := ag_of (by simp only [agrees_iff, h.reach])
theorem Turned.wr (h : Turned rs rs') : wr rs' = wr rs := by unfold plain.wr; rw [decide_eq_decide]; unfold Wrong; simp only [h.reach]
theorem Turned.first (h : Turned rs rs') : ∀ (d : Nat) (t : Int) (l : List Case), first rs' d t l = first rs d t l := by
 intro d
 induction d with
 | zero => intro t l; rfl
 | succ d ih => intro t l; rw [plain.first, plain.first, h.ag, ih]
theorem Turned.gl (h : Turned rs rs') (v : List Bool) : gl rs' [] v = gl rs [] v := by
 unfold plain.gl
 rw [Bool.eq_iff_iff]
 simp only [List.all_nil, Bool.and_true, List.all_eq_true, Bool.or_eq_true]
 constructor
 · intro g r hr; have := g _ (h.to r hr); exact this.symm
 intro g r hr; have := g _ (h.back r hr); exact this.symm
theorem Turned.cl (h : Turned rs rs') : ∀ (d : Nat) (v : List Bool), cl rs' [] d v = cl rs [] d v := by
 intro d
 induction d with
 | zero => intro v; rw [plain.cl, plain.cl, h.gl]
 | succ d ih => intro v; rw [plain.cl, plain.cl, ih, ih]
theorem Turned.ok (h : Turned rs rs') (hv : okR T rs) : okR T rs' := fun r hr => by
 have := hv _ (h.back r hr); exact ⟨this.2, this.1⟩
def sw (k : Int) (c : Case) : Case := if c.1 = k then ctr c else c
def sw2 (k : Int) (r : Case × Case) : Case × Case := (sw k r.1, sw k r.2)
theorem sw_fst (c : Case) : (sw k c).1 = c.1 := by unfold sw ctr; split <;> rfl
theorem sw_sw (c : Case) : sw k (sw k c) = c := by
 by_cases h : c.1 = k
 · have e : sw k c = ctr c := if_pos h
   rw [e, show sw k (ctr c) = ctr (ctr c) from if_pos h, ctr_ctr]
 have e : sw k c = c := if_neg h
 rw [e, e]
theorem sw_ctr (c : Case) : sw k (ctr c) = ctr (sw k c) := by
 unfold sw
 rw [show (ctr c).1 = c.1 from rfl]
 split <;> rfl
theorem sw_inj {a b : Case} (h : sw k a = sw k b) : a = b := by rw [← sw_sw (k := k) a, h, sw_sw]
theorem sw_eq {a b : Case} : sw k a = sw k b ↔ a = b := ⟨sw_inj, fun h => by rw [h]⟩
theorem sw_leads {x y : Case} : Leads (rs.map (sw2 k)) (sw k x) (sw k y) ↔ Leads rs x y := by
 unfold Leads
 simp only [List.mem_map]
 constructor
 · rintro ⟨_, ⟨r, hr, rfl⟩, h⟩
   refine ⟨r, hr, ?_⟩
   unfold sw2 at h
   rw [← sw_ctr] at h
   simpa only [sw_eq] using h
 rintro ⟨r, hr, h⟩
 refine ⟨_, ⟨r, hr, rfl⟩, ?_⟩
 unfold sw2
 rw [← sw_ctr]
 simpa only [sw_eq] using h
theorem sw_reach {x y : Case} : Reach (rs.map (sw2 k)) (sw k x) (sw k y) ↔ Reach rs x y := by
 constructor
 · intro g
   have : ∀ z, Reach (rs.map (sw2 k)) (sw k x) z → Reach rs x (sw k z) := fun z g => by
    induction g with
    | refl => rw [sw_sw]; exact .refl
    | @step a b _ e ih =>
     refine ih.step ?_
     rw [← sw_leads (k := k), sw_sw, sw_sw]
     exact e
   have h := this _ g
   rwa [sw_sw] at h
 intro g
 induction g with
 | refl => exact .refl
 | step _ e ih => exact ih.step (sw_leads.2 e)
theorem sw_wr : wr (rs.map (sw2 k)) = wr rs := by
 unfold wr
 rw [decide_eq_decide]
 constructor
 · rintro ⟨x, a, b⟩
   refine ⟨sw k x, ?_, ?_⟩
   · rw [← sw_reach (k := k), sw_sw, sw_ctr, sw_sw]; exact a
   rw [← sw_reach (k := k), sw_sw, sw_ctr, sw_sw]; exact b
 rintro ⟨x, a, b⟩
 refine ⟨sw k x, ?_, ?_⟩
 · rw [← sw_ctr, sw_reach]; exact a
 rw [← sw_ctr, sw_reach]; exact b
theorem sw_ag (l : List Case) : ag (rs.map (sw2 k)) (l.map (sw k)) = ag rs l := by
 unfold ag
 rw [decide_eq_decide, agrees_iff, agrees_iff]
 constructor
 · intro h x hx y hy g
   refine h _ (List.mem_map.2 ⟨x, hx, rfl⟩) _ (List.mem_map.2 ⟨y, hy, rfl⟩) ?_
   rw [← sw_ctr, sw_reach]; exact g
 intro h x hx y hy g
 obtain ⟨x', hx', rfl⟩ := List.mem_map.1 hx
 obtain ⟨y', hy', rfl⟩ := List.mem_map.1 hy
 rw [← sw_ctr, sw_reach] at g
 exact h _ hx' _ hy' g
theorem sw_less (i : Nat) : less (rs.map (sw2 k)) i = (less rs i).map (sw2 k) := by
 unfold less; rw [List.map_append, List.map_take, List.map_drop]
theorem sw_anti {i : Nat} (hi : i < rs.length) : anti (rs.map (sw2 k)) i = (anti rs i).map (sw k) := by
 unfold anti
 rw [cons_get _ hi, cons_get _ (by rw [List.length_map]; exact hi), List.getElem_map]
 show [ctr (sw k _), ctr (sw k _)] = [sw k (ctr _), sw k (ctr _)]
 rw [sw_ctr, sw_ctr]
theorem sw_spb {i : Nat} (hi : i < rs.length) : spb (rs.map (sw2 k)) i = spb rs i := by
 unfold spb
 rw [sw_less, sw_anti hi, sw_wr, sw_ag]
theorem sw_spl : ∀ (d v : Nat), v + d = rs.length → spl (rs.map (sw2 k)) d v = spl rs d v := by
 intro d
 induction d with
 | zero => intro v h; rfl
 | succ d ih => intro v h; rw [spl, spl, sw_spb (by omega), ih (v + 1) (by omega)]
theorem sw_ok (hv : okR T rs) : okR T (rs.map (sw2 k)) := fun r hr => by
 obtain ⟨s, hs_, rfl⟩ := List.mem_map.1 hr
 obtain ⟨a, b⟩ := hv s hs_
 have e : ∀ c : Case, okC T c → okC T (sw k c) := fun c hc => by unfold okC; rw [sw_fst]; exact hc
 exact ⟨e _ a, e _ b⟩
def flip (k : Nat) (v : List Bool) : List Bool := v.set k (!v.getD k false)
theorem flip_snoc (k : Nat) (v : List Bool) (b : Bool) : flip k (v ++ [b]) = if k = v.length then v ++ [!b] else flip k v ++ [b] := by
 unfold flip
 rw [List.set_append]
 by_cases h : k < v.length
 · rw [if_pos h, if_neg (by omega), List.getD_eq_getElem?_getD, List.getElem?_append_left h, ← List.getD_eq_getElem?_getD]
 rw [if_neg h]
 by_cases e : k = v.length
 · rw [if_pos e, e, List.getD_eq_getElem?_getD, List.getElem?_append_right (Nat.le_refl _)]
   simp
 rw [if_neg e, List.set_eq_of_length_le (by simp; omega), List.set_eq_of_length_le (by omega)]
theorem flip_long {k : Nat} {v : List Bool} (h : v.length ≤ k) : flip k v = v := List.set_eq_of_length_le h
theorem hb_flip {v : List Bool} {c : Case} (h0 : 0 ≤ k) (hc : 0 ≤ c.1) (hl : c.1 < (v.length : Int)) : hb (flip k.toNat v) (sw k c) = hb v c := by
 unfold hb flip
 rw [sw_fst, List.getD_eq_getElem?_getD, List.getElem?_set]
 by_cases h : c.1 = k
 · rw [if_pos (by rw [h]), if_pos (by omega), show (sw k c).2 = !c.2 by unfold sw ctr; rw [if_pos h], h]
   generalize v.getD k.toNat false = a
   cases a <;> cases c.2 <;> rfl
 rw [if_neg (by omega), show sw k c = c from if_neg h, ← List.getD_eq_getElem?_getD]
theorem gl_flip (hv : okR T rs) (h0 : 0 ≤ k) {v : List Bool} (hl : (v.length : Int) = T) : gl (rs.map (sw2 k)) [] (flip k.toNat v) = gl rs [] v := by
 unfold gl
 rw [List.all_map]
 congr 1
 rw [Bool.eq_iff_iff, List.all_eq_true, List.all_eq_true]
 have e : ∀ r ∈ rs, (hb (flip k.toNat v) (sw2 k r).1 || hb (flip k.toNat v) (sw2 k r).2) = (hb v r.1 || hb v r.2) := fun r hr => by
  obtain ⟨a, b⟩ := hv r hr
  unfold sw2
  rw [hb_flip h0 a.1 (by have := a.2; omega), hb_flip h0 b.1 (by have := b.2; omega)]
 constructor
 · intro h r hr; rw [← e r hr]; exact h r hr
 intro h r hr; exact (e r hr).trans (h r hr)
theorem cl_flip (hv : okR T rs) (h0 : 0 ≤ k) : ∀ (d : Nat) (v : List Bool), (v.length : Int) + d = T → cl (rs.map (sw2 k)) [] d (flip k.toNat v) = cl rs [] d v := by
 intro d
 induction d with
 | zero => intro v h; rw [cl, cl, gl_flip hv h0 (by omega)]
 | succ d ih =>
  intro v h
  rw [cl, cl]
  have i1 := ih (v ++ [false]) (by simp; omega)
  have i2 := ih (v ++ [true]) (by simp; omega)
  rw [flip_snoc] at i1 i2
  by_cases e : k.toNat = v.length
  · rw [if_pos e] at i1 i2
    rw [flip_long (by omega), ← i1, ← i2]
    exact Nat.add_comm _ _
  rw [if_neg e] at i1 i2
  rw [i1, i2]
theorem cl_flip0 (hv : okR T rs) (h0 : 0 ≤ k) (hT : 0 ≤ T) : cl (rs.map (sw2 k)) [] T.toNat [] = cl rs [] T.toNat [] := by
 have := cl_flip (T := T) hv h0 T.toNat [] (by simp; omega)
 rwa [flip_long (Nat.zero_le _)] at this
def sw1 (k t a : Int) : Int := if t = k ∧ a ≠ 2 then 1 - a else a
theorem cert_at (rs : Rules) (l : List Case) : ∀ (d i : Nat) (t : Int), i < d → (cert rs l d t).getD i 0 = if ag rs (l ++ [(t + i, true)]) then if ag rs (l ++ [(t + i, false)]) then 2 else 1 else 0 := by
 intro d
 induction d with
 | zero => intro i t h; omega
 | succ d ih =>
  intro i t h
  rw [cert]
  cases i with
  | zero => simp
  | succ i =>
   rw [List.getD_cons_succ, ih i (t + 1) (by omega), show t + 1 + (i : Int) = t + ((i + 1 : Nat) : Int) by push_cast; omega]
theorem cert_sw (hw : ¬ Wrong rs) (d i : Nat) (h : i < d) : (cert (rs.map (sw2 k)) [] d 0).getD i 0 = sw1 k i ((cert rs [] d 0).getD i 0) := by
 rw [cert_at _ _ _ _ _ h, cert_at _ _ _ _ _ h]
 simp only [List.nil_append, Int.zero_add]
 have h0 : Agrees rs [] := agrees_iff.2 (fun x hx => by cases hx)
 have ex : ag rs [((i : Int), false)] = false → ag rs [((i : Int), true)] = true := fun h => by
  have hn : ¬ Agrees rs ([] ++ [(((i : Int), false) : Case)]) := fun g => by rw [List.nil_append] at g; rw [ag_iff.2 g] at h; cases h
  exact ag_iff.2 (extend hw h0 hn)
 by_cases e : (i : Int) = k
 · have a1 : ag (rs.map (sw2 k)) [((i : Int), true)] = ag rs [((i : Int), false)] := by
    rw [← sw_ag (rs := rs) (k := k) [((i : Int), false)]]
    congr 1
    rw [List.map_cons, List.map_nil, show sw k ((i : Int), false) = ctr ((i : Int), false) from if_pos e]
    rfl
   have a2 : ag (rs.map (sw2 k)) [((i : Int), false)] = ag rs [((i : Int), true)] := by
    rw [← sw_ag (rs := rs) (k := k) [((i : Int), true)]]
    congr 1
    rw [List.map_cons, List.map_nil, show sw k ((i : Int), true) = ctr ((i : Int), true) from if_pos e]
    rfl
   rw [a1, a2]
   unfold sw1
   cases x : ag rs [((i : Int), false)]
   · rw [ex x]; simp [e]
   cases ag rs [((i : Int), true)] <;> simp [e]
 have a1 : ∀ b : Bool, ag (rs.map (sw2 k)) [((i : Int), b)] = ag rs [((i : Int), b)] := fun b => by
  rw [← sw_ag (rs := rs) (k := k) [((i : Int), b)]]
  congr 1
  rw [List.map_cons, List.map_nil, show sw k ((i : Int), b) = ((i : Int), b) from if_neg e]
 rw [a1, a1]
 unfold sw1
 have : ∀ a : Int, (if (i : Int) = k ∧ a ≠ 2 then 1 - a else a) = a := fun a => if_neg (fun h => e h.1)
 rw [this]
theorem cl_more (r : Case × Case) : ∀ (d : Nat) (v : List Bool), cl (rs ++ [r]) [] d v ≤ cl rs [] d v := by
 intro d
 induction d with
 | zero =>
  intro v
  rw [cl, cl]
  have : gl (rs ++ [r]) [] v = true → gl rs [] v = true := fun h => by
   unfold gl at h ⊢
   simp only [List.all_nil, Bool.and_true, List.all_append, Bool.and_eq_true] at h ⊢
   exact h.1
  split
  · rw [if_pos (this (by assumption))]; exact Nat.le_refl _
  exact Nat.zero_le _
 | succ d ih => intro v; rw [cl, cl]; exact Nat.add_le_add (ih _) (ih _)
end
end Go.Proofs.Ytiaippkjgmccoaa.plain
