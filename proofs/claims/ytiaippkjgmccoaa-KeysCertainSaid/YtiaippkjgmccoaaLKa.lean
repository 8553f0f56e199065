/- Spare rules, and how many truths are left: what the program computes. -/
import Derived.Test.YtiaippkjgmccoaaLK9
import Derived.Test.YtiaippkjgmccoaaKS
set_option linter.unusedVariables false
set_option maxRecDepth 100000
namespace Go.Proofs.Ytiaippkjgmccoaa.plain
open Go Go.Cl
section
variable {T : Int} {rs : Rules} {l : List Case}
def gl (rs : Rules) (l : List Case) (v : List Bool) : Bool := (rs.all fun r => hb v r.1 || hb v r.2) && l.all fun c => hb v c
def cl (rs : Rules) (l : List Case) : Nat → List Bool → Nat
 | 0, v => if gl rs l v then 1 else 0
 | d + 1, v => cl rs l d (v ++ [false]) + cl rs l d (v ++ [true])
theorem cl_le (rs : Rules) (l : List Case) : ∀ (d : Nat) (v : List Bool), cl rs l d v ≤ 2 ^ d := by
 intro d
 induction d with
 | zero => intro v; rw [cl]; split <;> simp
 | succ d ih =>
  intro v
  have := ih (v ++ [false]); have := ih (v ++ [true])
  rw [cl, Nat.pow_succ]
  omega
theorem hb_more {v w : List Bool} {c : Case} (h0 : 0 ≤ c.1) (h : c.1 < v.length) : hb (v ++ w) c = hb v c := by
 unfold hb
 rw [List.getD_eq_getElem?_getD, List.getD_eq_getElem?_getD, List.getElem?_append_left (by omega)]
theorem cl_zero : ∀ (d : Nat) (v : List Bool), (∀ w, gl rs l (v ++ w) = false) → cl rs l d v = 0 := by
 intro d
 induction d with
 | zero => intro v h; rw [cl, if_neg (by have := h []; rw [List.append_nil] at this; rw [this]; decide)]
 | succ d ih =>
  intro v h
  rw [cl, ih _ (fun w => by rw [List.append_assoc]; exact h _), ih _ (fun w => by rw [List.append_assoc]; exact h _)]
theorem F85_eq (c : Case) (v : List Bool) : F85 c.1 c.2 v = some (decide (c.1 < (v.length : Int))) := rfl
theorem F62_in {v : List Bool} {c : Case} (h0 : 0 ≤ c.1) (h : c.1 < (v.length : Int)) : F62 c.1 c.2 v = some (hb v c) := F62_eq rfl ⟨h0, h⟩
def brk (v : List Bool) (r : Case × Case) : Prop := r.1.1 < (v.length : Int) ∧ r.2.1 < (v.length : Int) ∧ hb v r.1 = false ∧ hb v r.2 = false
theorem known_loop (hv : okR T rs) (hrs : rs.length ≤ 1000) (v : List Bool) : ∀ (d i : Nat), i + d = rs.length → (F78l0 T rs v l i = some (.inl ()) ∧ ∃ r ∈ rs, brk v r) ∨ (F78l0 T rs v l i = some (.inr ()) ∧ ∀ r ∈ rs.drop i, ¬ brk v r) := by
 intro d
 induction d with
 | zero =>
  intro i hd
  right
  exact ⟨by rw [F78l0, if_neg (by simp; omega)], fun c hc => by rw [List.drop_eq_nil_of_le (by omega)] at hc; cases hc⟩
 | succ d ih =>
  intro i hd
  have hlt : i < rs.length := by omega
  have hdr : rs.drop i = rs[i] :: rs.drop (i + 1) := List.drop_eq_getElem_cons hlt
  have hm := List.getElem_mem hlt
  obtain ⟨oa, ob⟩ := hv _ hm
  rw [F78l0, if_pos (by simp; omega), if_pos ⟨by omega, by omega⟩, w64_up (by omega)]
  simp only [Option.bind_eq_bind, Option.bind_some, show ((i : Int)).toNat = i from rfl, cons_get _ hlt]
  rw [F85_eq rs[i].1, F85_eq rs[i].2]
  simp only [Option.bind_some]
  by_cases h : brk v rs[i]
  · left
    obtain ⟨h1, h2, h3, h4⟩ := h
    rw [decide_eq_true h1, decide_eq_true h2, F62_in oa.1 h1, F62_in ob.1 h2, h3, h4]
    exact ⟨rfl, rs[i], hm, h1, h2, h3, h4⟩
  have step : F78l0 T rs v l ((i + 1 : Nat) : Int) = F78l0 T rs v l ((i + 1 : Nat) : Int) := rfl
  have code : ((if decide (rs[i].1.1 < (v.length : Int)) = true then if decide (rs[i].2.1 < (v.length : Int)) = true then (F62 rs[i].1.1 rs[i].1.2 v).bind fun r41 => if (!r41) = true then (F62 rs[i].2.1 rs[i].2.2 v).bind fun r44 => some (!r44) else some false else some false else some false) : Option Bool) = some false := by
   by_cases h1 : rs[i].1.1 < (v.length : Int)
   · rw [decide_eq_true h1]
     by_cases h2 : rs[i].2.1 < (v.length : Int)
     · rw [decide_eq_true h2, F62_in oa.1 h1, F62_in ob.1 h2]
       cases e1 : hb v rs[i].1
       · cases e2 : hb v rs[i].2
         · exact absurd ⟨h1, h2, e1, e2⟩ h
         rfl
       rfl
     rw [decide_eq_false h2]; rfl
   rw [decide_eq_false h1]; rfl
  rw [code]
  simp only [Option.bind_some, Bool.false_eq_true, if_false]
  rcases ih (i + 1) (by omega) with ⟨f, g⟩ | ⟨f, g⟩
  · exact .inl ⟨f, g⟩
  refine .inr ⟨f, ?_⟩
  rw [hdr]
  exact List.forall_mem_cons.2 ⟨h, g⟩
def brkC (v : List Bool) (c : Case) : Prop := c.1 < (v.length : Int) ∧ hb v c = false
theorem said_loop (ho : ∀ c ∈ l, okC T c) (hl : l.length ≤ 1000) (v : List Bool) : ∀ (d i : Nat), i + d = l.length → (F78l1 T rs v l i = some (.inl ()) ∧ ∃ r ∈ l, brkC v r) ∨ (F78l1 T rs v l i = some (.inr ()) ∧ ∀ r ∈ l.drop i, ¬ brkC v r) := by
 intro d
 induction d with
 | zero =>
  intro i hd
  right
  exact ⟨by rw [F78l1, if_neg (by simp; omega)], fun c hc => by rw [List.drop_eq_nil_of_le (by omega)] at hc; cases hc⟩
 | succ d ih =>
  intro i hd
  have hlt : i < l.length := by omega
  have hdr : l.drop i = l[i] :: l.drop (i + 1) := List.drop_eq_getElem_cons hlt
  have hm := List.getElem_mem hlt
  have oa := ho _ hm
  rw [F78l1, if_pos (by simp; omega), if_pos ⟨by omega, by omega⟩, w64_up (by omega)]
  simp only [Option.bind_eq_bind, Option.bind_some, show ((i : Int)).toNat = i from rfl, cons_get _ hlt]
  rw [F85_eq l[i]]
  simp only [Option.bind_some]
  by_cases h : brkC v l[i]
  · left
    obtain ⟨h1, h3⟩ := h
    rw [decide_eq_true h1, F62_in oa.1 h1, h3]
    exact ⟨rfl, l[i], hm, h1, h3⟩
  have code : ((if decide (l[i].1 < (v.length : Int)) = true then (F62 l[i].1 l[i].2 v).bind fun r80 => some (!r80) else some false) : Option Bool) = some false := by
   by_cases h1 : l[i].1 < (v.length : Int)
   · rw [decide_eq_true h1, F62_in oa.1 h1]
     cases e1 : hb v l[i]
     · exact absurd ⟨h1, e1⟩ h
     rfl
   rw [decide_eq_false h1]; rfl
  rw [code]
  simp only [Option.bind_some, Bool.false_eq_true, if_false]
  rcases ih (i + 1) (by omega) with ⟨f, g⟩ | ⟨f, g⟩
  · exact .inl ⟨f, g⟩
  refine .inr ⟨f, ?_⟩
  rw [hdr]
  exact List.forall_mem_cons.2 ⟨h, g⟩
theorem F78_eq (hv : okR T rs) (hrs : rs.length ≤ 1000) (ho : ∀ c ∈ l, okC T c) (hl : l.length ≤ 1000) (hT : T ≤ 14) : ∀ (k d : Nat) (v : List Bool), d < k → (v.length : Int) + d = T → F78 k T rs v l = some (cl rs l d v : Int) := by
 intro k
 induction k with
 | zero => intro d v h; omega
 | succ k ih =>
  intro d v hk hd
  show F78b (F78 k) T rs v l = _
  unfold F78b
  rcases known_loop (l := l) hv hrs v rs.length 0 (by omega) with ⟨f, r, hr, h1, h2, h3, h4⟩ | ⟨f, g⟩
  · have f' : F78l0 T rs v l 0 = some (.inl ()) := f
    have oa := (hv r hr).1.1; have ob := (hv r hr).2.1
    rw [f', cl_zero]
    · rfl
    intro w
    unfold gl
    rw [Bool.and_eq_false_iff]
    left
    rw [List.all_eq_false]
    exact ⟨r, hr, by rw [hb_more oa h1, hb_more ob h2, h3, h4]; decide⟩
  have f' : F78l0 T rs v l 0 = some (.inr ()) := f
  rw [f']
  simp only [Option.bind_eq_bind, Option.bind_some]
  rcases said_loop (rs := rs) ho hl v l.length 0 (by omega) with ⟨f2, c, hc, h1, h3⟩ | ⟨f2, g2⟩
  · have f2' : F78l1 T rs v l 0 = some (.inl ()) := f2
    rw [f2', cl_zero]
    · rfl
    intro w
    unfold gl
    rw [Bool.and_eq_false_iff]
    right
    rw [List.all_eq_false]
    exact ⟨c, hc, by rw [hb_more (ho c hc).1 h1, h3]; decide⟩
  have f2' : F78l1 T rs v l 0 = some (.inr ()) := f2
  rw [f2']
  simp only [Option.bind_some]
  cases d with
  | zero =>
   have hg : gl rs l v = true := by
    unfold gl
    rw [Bool.and_eq_true, List.all_eq_true, List.all_eq_true]
    refine ⟨fun r hr => ?_, fun c hc => ?_⟩
    · have := g r (by rwa [List.drop_zero])
      have o1 := (hv r hr).1.2; have o2 := (hv r hr).2.2
      cases e1 : hb v r.1
      · cases e2 : hb v r.2
        · exact absurd ⟨by omega, by omega, e1, e2⟩ this
        rfl
      rfl
    have := g2 c (by rwa [List.drop_zero])
    have o1 := (ho c hc).2
    cases e1 : hb v c
    · exact absurd ⟨by omega, e1⟩ this
    rfl
   rw [if_pos (by simp; omega), cl, if_pos hg]
   rfl
  | succ d =>
   have b1 := cl_le rs l d (v ++ [false])
   have b2 := cl_le rs l d (v ++ [true])
   have b3 : 2 ^ d ≤ 2 ^ 14 := Nat.pow_le_pow_right (by decide) (by omega)
   have b4 : (2 : Nat) ^ 14 = 16384 := by decide
   rw [if_neg (by simp; omega), if_pos (by omega), ih d (v ++ [false]) (by omega) (by simp; omega), ih d (v ++ [true]) (by omega) (by simp; omega)]
   simp only [Option.bind_some]
   rw [w64_in (by omega) (by omega), cl]
   push_cast
   rfl
noncomputable def cerr (T : Int) (rs : Rules) (l : List Case) : Int := if chk2 T rs l ≠ 0 then chk2 T rs l else if T > 14 then 16 else 0
theorem chk_vals : chk T rs = 0 ∨ chk T rs = 1 ∨ chk T rs = 3 ∨ chk T rs = 6 := by
 unfold chk
 split
 · simp
 split
 · simp
 split <;> simp
theorem cerr_bad (hc : chk T rs ≠ 0) : cerr T rs l = chk T rs := by unfold cerr chk2; rw [if_pos hc, if_pos hc]
theorem cerr_ok (hc : chk T rs = 0) : cerr T rs l = if l.length > 24 then 3 else if inC T l then (if T > 14 then 16 else 0) else 6 := by
 unfold cerr chk2
 rw [if_neg (c := chk T rs ≠ 0) (by simpa using hc)]
 split
 · rfl
 split <;> rfl
theorem F38_eq (hrs : rs.length ≤ 1000) (hl : l.length ≤ 1000) : F38 T rs l = some (if cerr T rs l = 0 then (cl rs l T.toNat [] : Int) else 0, cerr T rs l) := by
 unfold F38
 rw [F26_eq hrs]
 simp only [Option.bind_eq_bind, Option.bind_some]
 by_cases hc : chk T rs = 0
 · obtain ⟨t1, t2, t3, hv⟩ := chk_ok hc
   rw [if_neg (by simp [hc]), cerr_ok hc]
   by_cases h3 : l.length > 24
   · rw [if_pos (by simp; omega), if_pos h3]; rfl
   rw [if_neg (by simp; omega), if_neg h3, F64_eq (by omega)]
   simp only [Option.bind_some]
   cases hi : inC T l
   · rfl
   have ho := inC_iff.1 hi
   obtain ⟨c, m1, f1, _⟩ := F75_eq hv (by omega) t2 (by omega) []
   obtain ⟨m2, f2⟩ := F57_eq (T0 := m1) hv t2 (by omega) (l := l) (by omega) ho
   rw [f1]
   simp only [Option.bind_some, Bool.not_true, Bool.false_eq_true, if_false, if_true]
   have key : ∃ b m, ((if wr rs = true then some (true, m1) else (F57 1 T rs m1 l).bind fun r15 => some (!r15.1, r15.2)) : Option (Bool × List (Case × Case))) = some (b, m) := by
    cases wr rs
    · rw [if_neg (by decide), f2]; exact ⟨_, _, rfl⟩
    exact ⟨_, _, rfl⟩
   obtain ⟨b, m, hk⟩ := key
   have both : ∀ x : Option (Int × Int), (if b = true then x else x) = x := fun x => by cases b <;> rfl
   rw [hk]
   simp only [Option.bind_some, both]
   by_cases h14 : T > 14
   · rw [if_pos (by simpa using h14), if_pos h14]; rfl
   rw [if_neg (by simpa using h14), if_neg h14, F78_eq hv (by omega) ho (by omega) (by omega) 64 T.toNat [] (by omega) (by simp; omega)]
   rfl
 rw [if_pos (by simpa using hc), cerr_bad hc, if_neg hc]
 rcases chk_vals (T := T) (rs := rs) with h | h | h | h
 · exact absurd h hc
 all_goals rw [h]; rfl
end
end Go.Proofs.Ytiaippkjgmccoaa.plain
