/- Offices: books by numbers, chains as the statements go through them, and truths tried one by one. -/
import Derived.Test.YtiaippkjgmccoaaLK6
import Derived.Test.YtiaippkjgmccoaaKQ
set_option linter.unusedVariables false
namespace Go.Proofs.Ytiaippkjgmccoaa.plain
open Go Go.Cl
def B8 (x : Int) : Prop := 0 ≤ x ∧ x ≤ 255
theorem b8_of {x : Int} (h : (Lit.int .u8 x).wf = true) : B8 x := by
 simp [Lit.wf, IntKind.min, IntKind.max, IntKind.signed, IntKind.bits] at h
 exact ⟨by omega, by omega⟩
theorem tmod_in {x S : Int} (h : 0 ≤ x) (hS : 0 < S) : 0 ≤ Int.tmod x S ∧ Int.tmod x S < S := ⟨Int.tmod_nonneg _ h, Int.tmod_lt_of_pos _ hS⟩
section
variable {T : Int} {rs : Rules} {l : List Case}
theorem F45_eq {n : Int} (h0 : 1 ≤ T) (hT : T ≤ 24) (hn : B8 n) : ∃ c, F45 T rs n = some c ∧ okC T c := by
 obtain ⟨n0, n1⟩ := hn
 unfold F45
 rw [if_neg (by omega)]
 have e1 : w64 n = n := w64_in (by omega) (by omega)
 have e2 : Int.tdiv n 2 = n / 2 := Int.tdiv_eq_ediv_of_nonneg n0
 have e3 : w64 (n / 2) = n / 2 := w64_in (by omega) (by omega)
 refine ⟨_, rfl, ?_⟩
 rw [e1, e2, e3]
 exact tmod_in (x := n / 2) (by omega) (by omega)
theorem made {p0 : Int} {p1 : List (Int × Int)} (h : B8 p0) (hp : ∀ x ∈ p1, B8 x.1 ∧ B8 x.2) : ∃ T rs, F40 p0 p1 = some (T, rs) ∧ 1 ≤ T ∧ T ≤ 5 ∧ okR T rs ∧ rs.length ≤ 9 := by
 obtain ⟨h0, h1⟩ := h
 have t := tmod_in (x := p0) (S := 5) h0 (by decide)
 have e1 : w64 p0 = p0 := w64_in (by omega) (by omega)
 have e2 : w64 (1 + Int.tmod p0 5) = 1 + Int.tmod p0 5 := w64_in (by omega) (by omega)
 generalize hT : 1 + Int.tmod p0 5 = T at *
 have T1 : 1 ≤ T := by omega
 have T2 : T ≤ 5 := by omega
 have go : ∀ (d v : Nat) (out : Rules), v + d = 9 → out.length ≤ v → okR T out → ∃ rs, F40l0 p0 p1 v out = some rs ∧ okR T rs ∧ rs.length ≤ 9 := by
  intro d
  induction d with
  | zero =>
   intro v out hd hl ho
   refine ⟨out, ?_, ho, by omega⟩
   rw [F40l0]
   have : decide ((v : Int) < 9) = false := decide_eq_false (by omega)
   rw [this]
   by_cases c : (v : Int) < (p1.length : Int)
   · rw [decide_eq_true c]; rfl
   rw [decide_eq_false c]; rfl
  | succ d ih =>
   intro v out hd hl ho
   rw [F40l0]
   by_cases c : (v : Int) < (p1.length : Int)
   · have hlt : v < p1.length := by omega
     have hm := hp _ (List.getElem_mem hlt)
     have hget : p1.getD v (0, 0) = p1[v] := by rw [List.getD_eq_getElem?_getD, List.getElem?_eq_getElem hlt]; rfl
     obtain ⟨c1, f1, o1⟩ := F45_eq (T := T) (rs := out) T1 (by omega) hm.1
     obtain ⟨c2, f2, o2⟩ := F45_eq (T := T) (rs := out) T1 (by omega) hm.2
     obtain ⟨rs, f, a, b⟩ := ih (v + 1) (out ++ [(c1, c2)]) (by omega) (by simp; omega) (fun r hr => by
      rcases List.mem_append.1 hr with h | h
      · exact ho r h
      rw [List.mem_singleton.1 h]; exact ⟨o1, o2⟩)
     refine ⟨rs, ?_, a, b⟩
     rw [decide_eq_true c, decide_eq_true (show (v : Int) < 9 by omega)]
     simp only [Option.bind_eq_bind, Option.bind_some, if_true]
     rw [if_pos ⟨by omega, c⟩]
     simp only [Option.bind_some, Int.toNat_natCast, hget]
     rw [e1, hT, e2, f1]
     simp only [Option.bind_some]
     rw [f2]
     simp only [Option.bind_some]
     rw [if_pos (by omega), w64_up (by omega)]
     exact f
   refine ⟨out, ?_, ho, by omega⟩
   rw [decide_eq_false c]; rfl
 obtain ⟨rs, f, a, b⟩ := go 9 0 [] (by omega) (Nat.zero_le _) (fun r hr => by cases hr)
 refine ⟨T, rs, ?_, T1, T2, a, b⟩
 unfold F40
 rw [show (0 : Int) = ((0 : Nat) : Int) from rfl, f, e1, hT, e2]
 rfl
theorem chk_made (h0 : 1 ≤ T) (hT : T ≤ 5) (hv : okR T rs) (hl : rs.length ≤ 9) : chk T rs = 0 := by
 unfold chk
 rw [if_neg (by omega), if_neg (by omega), if_pos hv]
end
end Go.Proofs.Ytiaippkjgmccoaa.plain
