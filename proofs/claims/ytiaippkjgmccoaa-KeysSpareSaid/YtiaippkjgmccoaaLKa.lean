/- Spare rules, and how many truths are left: what the program computes. -/
import Derived.Test.YtiaippkjgmccoaaLK9
import Derived.Test.YtiaippkjgmccoaaKS
set_option linter.unusedVariables false
set_option maxRecDepth 100000
namespace Go.Proofs.Ytiaippkjgmccoaa.plain
open Go Go.Cl
section
variable {T : Int} {rs : Rules} {l : List Case}
theorem F77_eq {a b : Rules} (ha : a.length ≤ 1000) (hb : b.length ≤ 1000) : F77 a b = some (a ++ b) := by
 unfold F77
 have w1 : w64 (0 + (a.length : Int)) = (a.length : Int) := by rw [Int.zero_add]; exact w64_in (by omega) (by omega)
 have w2 : w64 ((a.length : Int) + (b.length : Int)) = (a.length : Int) + (b.length : Int) := w64_in (by omega) (by omega)
 have w4 : w64 ((a.length : Int) + (b.length : Int) - 0) = (a.length : Int) + (b.length : Int) := by rw [Int.sub_zero]; exact w2
 simp only [w1, w2, Option.bind_eq_bind, Option.bind_some, w4]
 have n1 : ¬ decide ((a.length : Int) < 0) = true := by simp
 have n2 : ¬ decide ((a.length : Int) + (b.length : Int) < 0) = true := by simp; omega
 simp only [if_neg n1, if_neg n2, Option.bind_some]
 by_cases c0 : (a.length : Int) + (b.length : Int) > 0
 · rw [if_pos (by simpa using c0), if_pos ⟨by omega, by omega⟩, if_pos ⟨by decide, by omega⟩, if_pos (by simp), if_pos (by omega), if_pos (by simp; omega), if_pos (by omega)]
   simp
 rw [if_neg (by simpa using c0), if_pos (by omega), if_pos (by omega)]
def less (rs : Rules) (i : Nat) : Rules := rs.take i ++ rs.drop (i + 1)
theorem less_sub {i : Nat} {r : Case × Case} (h : r ∈ less rs i) : r ∈ rs := by
 rcases List.mem_append.1 h with h | h
 · exact List.mem_of_mem_take h
 exact List.mem_of_mem_drop h
theorem less_ok (hv : okR T rs) (i : Nat) : okR T (less rs i) := fun r hr => hv r (less_sub hr)
theorem less_len (i : Nat) : (less rs i).length ≤ rs.length := by
 unfold less; rw [List.length_append, List.length_take, List.length_drop]; omega
def anti (rs : Rules) (i : Nat) : List Case := [ctr (rs.getD i ((0, false), (0, false))).1, ctr (rs.getD i ((0, false), (0, false))).2]
theorem anti_ok (hv : okR T rs) {i : Nat} (hi : i < rs.length) : ∀ y ∈ anti rs i, okC T y := fun y hy => by
 unfold anti at hy
 rw [cons_get _ hi] at hy
 obtain ⟨oa, ob⟩ := hv _ (List.getElem_mem hi)
 rcases List.mem_cons.1 hy with h | h
 · rw [h]; exact oa
 rw [List.mem_singleton.1 h]; exact ob
noncomputable def spb (rs : Rules) (i : Nat) : Bool := wr (less rs i) || !ag (less rs i) (anti rs i)
noncomputable def spl (rs : Rules) : Nat → Nat → List Int
 | 0, _ => []
 | d + 1, v => if spb rs v then (v : Int) :: spl rs d (v + 1) else spl rs d (v + 1)
theorem len_spl (rs : Rules) : ∀ (d v : Nat), (spl rs d v).length ≤ d := by
 intro d
 induction d with
 | zero => intro v; exact Nat.le_refl _
 | succ d ih =>
  intro v
  have := ih (v + 1)
  rw [spl]
  split
  · rw [List.length_cons]; omega
  omega
theorem spare_loop (hv : okR T rs) (h0 : 0 ≤ T) (hT : T ≤ 24) (hrs : rs.length ≤ 80) : ∀ (d v : Nat) (out : List Int), v + d = rs.length → out.length ≤ v → F36l0 T rs out v = some (out ++ spl rs d v) := by
 intro d
 induction d with
 | zero => intro v out hd ho; rw [F36l0, if_neg (by simp; omega), spl, List.append_nil]
 | succ d ih =>
  intro v out hd ho
  have hlt : v < rs.length := by omega
  have w1 : w64 ((v : Int) + 1) = ((v + 1 : Nat) : Int) := w64_up (by omega)
  have hl := less_len (rs := rs) v
  have hx := anti_ok hv hlt
  obtain ⟨c, m1, f1, _⟩ := F75_eq (less_ok hv v) h0 hT (by omega) []
  obtain ⟨m2, f2⟩ := F57_eq (T0 := m1) (less_ok hv v) hT (by omega) (l := anti rs v) (by unfold anti; simp) hx
  have e1 : F77 (List.take v rs) (List.drop (v + 1) rs) = some (less rs v) := F77_eq (by rw [List.length_take]; omega) (by rw [List.length_drop]; omega)
  rw [F36l0, if_pos (by simp; omega), if_pos ⟨by omega, by omega⟩, w1]
  simp only [Option.bind_eq_bind, Option.bind_some]
  rw [if_pos ⟨by omega, by omega⟩, if_pos ⟨by omega, by omega⟩]
  simp only [Int.toNat_natCast]
  rw [e1]
  simp only [Option.bind_some]
  rw [f1]
  simp only [Option.bind_some]
  have en : (spb rs v) = (wr (less rs v) || !ag (less rs v) (anti rs v)) := rfl
  have key : (if wr (less rs v) = true then some true else (F72 (rs.getD v ((0, false), (0, false))).1.1 (rs.getD v ((0, false), (0, false))).1.2).bind fun r70 => (F72 (rs.getD v ((0, false), (0, false))).2.1 (rs.getD v ((0, false), (0, false))).2.2).bind fun r72 => (F57 1 T (less rs v) m1 [(r70.1, r70.2), (r72.1, r72.2)]).bind fun r74 => some (!r74.1)) = some (spb rs v) := by
   rw [en]
   cases wr (less rs v)
   · rw [if_neg (by decide), F72_eq, F72_eq]
     simp only [Option.bind_some]
     rw [show ([((ctr (rs.getD v ((0, false), (0, false))).1).1, (ctr (rs.getD v ((0, false), (0, false))).1).2), ((ctr (rs.getD v ((0, false), (0, false))).2).1, (ctr (rs.getD v ((0, false), (0, false))).2).2)] : List Case) = anti rs v from rfl, f2]
     rfl
   rfl
  rw [key]
  simp only [Option.bind_some]
  rw [spl]
  cases spb rs v
  · simp only [Bool.false_eq_true, if_false, Option.bind_some]
    exact ih (v + 1) out (by omega) (by omega)
  simp only [if_true]
  rw [if_pos (by omega)]
  simp only [Option.bind_some]
  rw [ih (v + 1) _ (by omega) (by simp; omega), List.append_assoc]
  rfl
theorem F36_eq (hrs : rs.length ≤ 1000) : F36 T rs = some (if chk T rs = 0 then spl rs rs.length 0 else [], chk T rs) := by
 unfold F36
 rw [F26_eq hrs]
 simp only [Option.bind_eq_bind, Option.bind_some]
 by_cases hc : chk T rs = 0
 · obtain ⟨t1, t2, t3, hv⟩ := chk_ok hc
   have f : F36l0 T rs [] 0 = some ([] ++ spl rs rs.length 0) := spare_loop hv (by omega) t2 t3 rs.length 0 [] (by omega) (Nat.zero_le _)
   rw [if_neg (by simp [hc]), f, if_pos hc, hc]
   rfl
 rw [if_pos (by simpa using hc), if_neg hc]
end
end Go.Proofs.Ytiaippkjgmccoaa.plain
