/- KeysSpare: the plain law. -/
import Derived.Test.YtiaippkjgmccoaaLKa
import Derived.Test.YtiaippkjgmccoaaG12
set_option linter.unusedVariables false
set_option maxRecDepth 100000
namespace Go.Proofs.Ytiaippkjgmccoaa.plain
open Go Go.Cl
section
variable {T : Int} {rs : Rules} {l : List Case}
theorem less_or {i : Nat} (hi : i < rs.length) {r : Case × Case} (h : r ∈ rs) : r ∈ less rs i ∨ r = rs[i] := by
 obtain ⟨j, hj, e⟩ := List.getElem_of_mem h
 by_cases a : j < i
 · refine .inl (List.mem_append_left _ ?_)
   rw [List.mem_take_iff_getElem]
   exact ⟨j, by omega, e⟩
 by_cases b : j = i
 · subst b; exact .inr e.symm
 refine .inl (List.mem_append_right _ ?_)
 rw [List.mem_drop_iff_getElem]
 exact ⟨j - (i + 1), by omega, by simp only [show i + 1 + (j - (i + 1)) = j by omega]; exact e⟩
theorem spb_iff (hv : okR T rs) (h0 : 1 ≤ T) (hT : T ≤ 5) {i : Nat} (hi : i < rs.length) : spb rs i = true ↔ ∀ n : Nat, n < 2 ^ T.toNat → good (less rs i) [] n = true → good rs [] n = true := by
 have hvl := less_ok hv i
 have oi := hv _ (List.getElem_mem hi)
 have ea : anti rs i = [ctr rs[i].1, ctr rs[i].2] := by unfold anti; rw [cons_get _ hi]
 constructor
 · intro h n hn hg
   obtain ⟨hs_, _⟩ := good_iff.1 hg
   refine good_iff.2 ⟨?_, fun c hc => by cases hc⟩
   intro r hr
   rcases less_or hi hr with h1 | h1
   · exact hs_ r h1
   subst h1
   refine Classical.byContradiction fun hn => ?_
   have na : so (vb n) (ctr rs[i].1) := so_ctr.2 (fun g => hn (.inl g))
   have nb : so (vb n) (ctr rs[i].2) := so_ctr.2 (fun g => hn (.inr g))
   have hA : Agrees (less rs i) (anti rs i) := hs_.agrees (fun x hx => by
    rw [ea] at hx
    rcases List.mem_cons.1 hx with h | h
    · rw [h]; exact na
    rw [List.mem_singleton.1 h]; exact nb)
   have hW := hs_.not_wrong
   unfold spb at h
   rw [ag_iff.2 hA] at h
   simp at h
   exact hW (wr_iff.1 h)
 intro h
 cases e : spb rs i
 · exfalso
   unfold spb at e
   rw [Bool.or_eq_false_iff] at e
   obtain ⟨e1, e2⟩ := e
   have hW : ¬ Wrong (less rs i) := fun g => by rw [wr_iff.2 g] at e1; cases e1
   have hA : Agrees (less rs i) (anti rs i) := ag_iff.1 (by simpa using e2)
   obtain ⟨s1, s2⟩ := first_true hvl hW hA (anti_ok hv hi)
   obtain ⟨n, hn, hb_⟩ := bits_for h0 hT (fv T (less rs i) (anti rs i))
   have tr : ∀ c : Case, okC T c → (so (vb n) c ↔ so (fv T (less rs i) (anti rs i)) c) := fun c hc => by unfold so; rw [hb_ c.1 hc.1 hc.2]
   have hg : good (less rs i) [] n = true := good_iff.2 ⟨fun r hr => by
    obtain ⟨o1, o2⟩ := hvl r hr
    rw [tr _ o1, tr _ o2]
    exact s1 r hr, fun c hc => by cases hc⟩
   have hg2 := (good_iff.1 (h n hn hg)).1 _ (List.getElem_mem hi)
   rw [tr _ oi.1, tr _ oi.2] at hg2
   have ka := so_ctr.1 (s2 (ctr rs[i].1) (by rw [ea]; simp))
   have kb := so_ctr.1 (s2 (ctr rs[i].2) (by rw [ea]; simp))
   rcases hg2 with g | g
   · exact ka g
   exact kb g
 rfl
theorem filter_same {α : Type} {p q : α → Bool} : ∀ {L : List α}, (∀ x ∈ L, q x = true → p x = true) → ((L.filter p).length = (L.filter q).length ↔ ∀ x ∈ L, p x = true → q x = true) := by
 intro L
 induction L with
 | nil => intro _; simp
 | cons a L ih =>
  intro h
  have ih' := ih (fun x hx => h x (List.mem_cons_of_mem _ hx))
  have le : ∀ {M : List α}, (∀ x ∈ M, q x = true → p x = true) → (M.filter q).length ≤ (M.filter p).length := by
   intro M
   induction M with
   | nil => intro _; simp
   | cons b M im =>
    intro hm
    have im' := im (fun x hx => hm x (List.mem_cons_of_mem _ hx))
    have hb_ := hm b List.mem_cons_self
    rw [List.filter_cons, List.filter_cons]
    cases e1 : p b <;> cases e2 : q b
    · simpa using im'
    · rw [e1] at hb_; exact absurd (hb_ e2) (by decide)
    · simp; omega
    simpa using im'
  have ll := le (fun x hx => h x (List.mem_cons_of_mem _ hx))
  have ha := h a List.mem_cons_self
  rw [List.filter_cons, List.filter_cons, List.forall_mem_cons]
  cases e1 : p a <;> cases e2 : q a
  · simpa using ih'
  · rw [e1] at ha; exact absurd (ha e2) (by decide)
  · simp; omega
  simpa using ih'
theorem spl_ge : ∀ (d v : Nat) (x : Int), x ∈ spl rs d v → (v : Int) ≤ x := by
 intro d
 induction d with
 | zero => intro v x h; cases h
 | succ d ih =>
  intro v x h
  rw [spl] at h
  split at h
  · rcases List.mem_cons.1 h with h | h
    · omega
    have := ih _ _ h; omega
  have := ih _ _ h; omega
def trs (T : Int) (rs : Rules) : List Int := ((List.range (2 ^ T.toNat)).map fun i : Nat => (i : Int)).filter (good rs [])
theorem count_iff (hv : okR T rs) (h0 : 1 ≤ T) (hT : T ≤ 5) {i : Nat} (hi : i < rs.length) : ((trs T (less rs i)).length = (trs T rs).length) ↔ spb rs i = true := by
 unfold trs
 rw [filter_same, spb_iff hv h0 hT hi]
 · constructor
   · intro h n hn hg
     exact h (n : Int) (List.mem_map.2 ⟨n, List.mem_range.2 hn, rfl⟩) hg
   intro h x hx hg
   obtain ⟨n, hn, e⟩ := List.mem_map.1 hx
   subst e
   exact h n (List.mem_range.1 hn) hg
 intro x hx hg
 obtain ⟨hs_, _⟩ := good_iff.1 hg
 exact good_iff.2 ⟨fun r hr => hs_ r (less_sub hr), fun c hc => by cases hc⟩
theorem each_loop {p1 : List (Int × Int)} (hv : okR T rs) (h0 : 1 ≤ T) (hT : T ≤ 5) (hrs : rs.length ≤ 100) {S : List Int} {e : Int} (hS : S.length ≤ 1000) : ∀ (d v k : Nat), v + d = rs.length → S.drop k = spl rs d v → k ≤ S.length → F12l0 p1 (T, rs) (S, e) k v = some (.inr (S.length : Int)) := by
 intro d
 induction d with
 | zero =>
  intro v k hd h hk
  rw [spl, List.drop_eq_nil_iff] at h
  rw [F12l0, if_neg (by simp; omega), show k = S.length by omega]
 | succ d ih =>
  intro v k hd h hk
  have hlt : v < rs.length := by omega
  have w1 : w64 ((v : Int) + 1) = ((v + 1 : Nat) : Int) := w64_up (by omega)
  have hl := less_len (rs := rs) v
  rw [F12l0, if_pos (by simp; omega), if_pos ⟨by omega, by dsimp only; omega⟩, w1]
  simp only [Option.bind_eq_bind, Option.bind_some, Int.toNat_natCast]
  rw [if_pos (by rw [List.length_take]; omega), if_pos ⟨by omega, by omega⟩, if_pos (by rw [List.length_drop]; omega), show List.take v rs ++ List.drop (v + 1) rs = less rs v from rfl, F41_eq (less_ok hv v) h0 hT (by omega) (fun c hc => by cases hc) (by simp), F41_eq hv h0 hT (by omega) (fun c hc => by cases hc) (by simp)]
  simp only [Option.bind_some]
  rw [show ((List.range (2 ^ T.toNat)).map fun i : Nat => (i : Int)).filter (good (less rs v) []) = trs T (less rs v) from rfl, show ((List.range (2 ^ T.toNat)).map fun i : Nat => (i : Int)).filter (good rs []) = trs T rs from rfl]
  have ec : (((trs T (less rs v)).length : Int) == ((trs T rs).length : Int)) = spb rs v := by
   rw [Bool.eq_iff_iff, beq_iff_eq, ← count_iff hv h0 hT hlt]
   omega
  rw [ec]
  rw [spl] at h
  cases hs_ : spb rs v
  · rw [hs_] at h
    simp only [Bool.false_eq_true, if_false] at h
    have key : ((if decide ((k : Int) < (S.length : Int)) = true then if (0 : Int) ≤ (k : Int) ∧ (k : Int) < (S.length : Int) then some (!(false == (S.getD k 0 == (v : Int)))) else none else some (!(false == false))) : Option Bool) = some false := by
     by_cases hk2 : k < S.length
     · rw [if_pos (by simpa using hk2), if_pos ⟨by omega, by omega⟩]
       have hm : S.getD k 0 ∈ spl rs d (v + 1) := by
        rw [← h, cons_get _ hk2, List.mem_drop_iff_getElem]
        exact ⟨0, by omega, by simp⟩
       have := spl_ge _ _ _ hm
       rw [show (S.getD k 0 == (v : Int)) = false by rw [beq_eq_false_iff_ne]; omega]
       rfl
     rw [if_neg (by simpa using hk2)]; rfl
    rw [key]
    simp only [Option.bind_some, Bool.false_eq_true, if_false]
    exact ih (v + 1) k (by omega) h hk
  rw [hs_] at h
  simp only [if_true] at h
  have hk2 : k < S.length := by
   refine Classical.byContradiction fun hn => ?_
   rw [List.drop_eq_nil_of_le (by omega)] at h
   cases h
  rw [List.drop_eq_getElem_cons hk2] at h
  injection h with h1 h2
  rw [if_pos (by simpa using hk2), if_pos ⟨by omega, by omega⟩, cons_get _ hk2, h1]
  simp only [beq_self_eq_true, Bool.not_true, Option.bind_some, Bool.false_eq_true, if_false, if_true]
  rw [w64_up (by omega)]
  exact ih (v + 1) (k + 1) (by omega) h2 (by omega)
end
end Go.Proofs.Ytiaippkjgmccoaa.plain
namespace Go.Proofs.Ytiaippkjgmccoaa
open Go Go.Cl plain
theorem plain (p0 : Int) (p1 : List (Int × Int)) (wp0 : (Lit.int .u8 p0).wf = true) (wp1 : ∀ x ∈ p1, (Lit.int .u8 x.1).wf = true ∧ (Lit.int .u8 x.2).wf = true) : F12 p0 p1 = some true := by
 obtain ⟨T, rs, f40, t1, t2, hv, hr⟩ := made (p1 := p1) (b8_of wp0) (fun x hx => ⟨b8_of (wp1 x hx).1, b8_of (wp1 x hx).2⟩)
 have hc := chk_made t1 t2 hv hr
 have q : rs.length ≤ 1000 := by omega
 have hs_ := len_spl rs rs.length 0
 have f : F12l0 p1 (T, rs) (spl rs rs.length 0, 0) 0 0 = some (.inr ((spl rs rs.length 0).length : Int)) := each_loop hv t1 t2 (by omega) (by omega) rs.length 0 0 (by omega) rfl (Nat.zero_le _)
 unfold F12
 rw [f40]
 simp only [Option.bind_eq_bind, Option.bind_some]
 rw [F36_eq q, hc]
 simp only [Option.bind_some, if_true, bne_self_eq_false, Bool.false_eq_true, if_false]
 rw [f]
 simp only [Option.bind_some, beq_self_eq_true, if_true]
 rfl
end Go.Proofs.Ytiaippkjgmccoaa
