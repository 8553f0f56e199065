/- KeysProved: the plain law. -/
import Derived.Test.YtiaippkjgmccoaaLK7
import Derived.Test.YtiaippkjgmccoaaG8
set_option linter.unusedVariables false
namespace Go.Proofs.Ytiaippkjgmccoaa
open Go Go.Cl
namespace plain
variable {T : Int} {rs : Rules}
theorem list_loop0 {p1 : List (Int × Int)} {p2 p3 : List Int} (h0 : 1 ≤ T) (hT : T ≤ 24) (hp : ∀ x ∈ p2, B8 x) : ∀ (d v : Nat) (out : List Case), v + d = 6 → out.length ≤ v → (∀ c ∈ out, okC T c) → ∃ l, F8l0 p1 p2 p3 (T, rs) out v = some l ∧ l.length ≤ 6 ∧ ∀ c ∈ l, okC T c := by
 intro d
 induction d with
 | zero =>
  intro v out hd hl ho
  refine ⟨out, ?_, by omega, ho⟩
  rw [F8l0, decide_eq_false (show ¬ (v : Int) < 6 by omega)]
  by_cases c : (v : Int) < (p2.length : Int)
  · rw [decide_eq_true c]; rfl
  rw [decide_eq_false c]; rfl
 | succ d ih =>
  intro v out hd hl ho
  rw [F8l0]
  by_cases c : (v : Int) < (p2.length : Int)
  · have hlt : v < p2.length := by omega
    have hget : p2.getD v 0 = p2[v] := by rw [List.getD_eq_getElem?_getD, List.getElem?_eq_getElem hlt]; rfl
    obtain ⟨c1, f1, o1⟩ := F45_eq (T := T) (rs := rs) h0 hT (hp _ (List.getElem_mem hlt))
    obtain ⟨l, f, a, b⟩ := ih (v + 1) (out ++ [c1]) (by omega) (by simp; omega) (fun r hr => by
     rcases List.mem_append.1 hr with h | h
     · exact ho r h
     rw [List.mem_singleton.1 h]; exact o1)
    refine ⟨l, ?_, a, b⟩
    rw [decide_eq_true c, decide_eq_true (show (v : Int) < 6 by omega)]
    simp only [Option.bind_eq_bind, Option.bind_some, if_true]
    rw [if_pos ⟨by omega, c⟩]
    simp only [Int.toNat_natCast, hget]
    rw [f1]
    simp only [Option.bind_some]
    rw [if_pos (by omega), w64_up (by omega)]
    exact f
  exact ⟨out, by rw [decide_eq_false c]; rfl, by omega, ho⟩
theorem list_loop1 {p1 : List (Int × Int)} {p2 p3 : List Int} {q : List Case} (h0 : 1 ≤ T) (hT : T ≤ 24) (hp : ∀ x ∈ p3, B8 x) : ∀ (d v : Nat) (out : List Case), v + d = 6 → out.length ≤ v → (∀ c ∈ out, okC T c) → ∃ l, F8l1 p1 p2 p3 (T, rs) q out v = some l ∧ l.length ≤ 6 ∧ ∀ c ∈ l, okC T c := by
 intro d
 induction d with
 | zero =>
  intro v out hd hl ho
  refine ⟨out, ?_, by omega, ho⟩
  rw [F8l1, decide_eq_false (show ¬ (v : Int) < 6 by omega)]
  by_cases c : (v : Int) < (p3.length : Int)
  · rw [decide_eq_true c]; rfl
  rw [decide_eq_false c]; rfl
 | succ d ih =>
  intro v out hd hl ho
  rw [F8l1]
  by_cases c : (v : Int) < (p3.length : Int)
  · have hlt : v < p3.length := by omega
    have hget : p3.getD v 0 = p3[v] := by rw [List.getD_eq_getElem?_getD, List.getElem?_eq_getElem hlt]; rfl
    obtain ⟨c1, f1, o1⟩ := F45_eq (T := T) (rs := rs) h0 hT (hp _ (List.getElem_mem hlt))
    obtain ⟨l, f, a, b⟩ := ih (v + 1) (out ++ [c1]) (by omega) (by simp; omega) (fun r hr => by
     rcases List.mem_append.1 hr with h | h
     · exact ho r h
     rw [List.mem_singleton.1 h]; exact o1)
    refine ⟨l, ?_, a, b⟩
    rw [decide_eq_true c, decide_eq_true (show (v : Int) < 6 by omega)]
    simp only [Option.bind_eq_bind, Option.bind_some, if_true]
    rw [if_pos ⟨by omega, c⟩]
    simp only [Int.toNat_natCast, hget]
    rw [f1]
    simp only [Option.bind_some]
    rw [if_pos (by omega), w64_up (by omega)]
    exact f
  exact ⟨out, by rw [decide_eq_false c]; rfl, by omega, ho⟩
def Closes (a b : List Case) : Bool := decide (at_ a (a.length - 1) = ctr (at_ a 0)) && (decide (at_ b 0 = at_ a (a.length - 1)) && decide (at_ b (b.length - 1) = at_ a 0))
theorem F34_val (hrs : rs.length ≤ 1000) {a b : List Case} (ha : a.length ≤ 1000) (hb : b.length ≤ 1000) (h1 : ver T rs a = 0) (h2 : ver T rs b = 0) : F34 T rs a b = some (if Closes a b then 0 else 12) := by
 obtain ⟨a1, a2⟩ := ver_ok h1
 obtain ⟨b1, b2⟩ := ver_ok h2
 have wa : w64 ((a.length : Int) - 1) = ((a.length - 1 : Nat) : Int) := by rw [w64_in (by omega) (by omega)]; omega
 have wb : w64 ((b.length : Int) - 1) = ((b.length - 1 : Nat) : Int) := by rw [w64_in (by omega) (by omega)]; omega
 have c1 : (0 : Int) ≤ 0 ∧ (0 : Int) < (a.length : Int) := ⟨by omega, by omega⟩
 have c2 : (0 : Int) ≤ ((a.length - 1 : Nat) : Int) ∧ ((a.length - 1 : Nat) : Int) < (a.length : Int) := ⟨by omega, by omega⟩
 have c3 : (0 : Int) ≤ 0 ∧ (0 : Int) < (b.length : Int) := ⟨by omega, by omega⟩
 have c4 : (0 : Int) ≤ ((b.length - 1 : Nat) : Int) ∧ ((b.length - 1 : Nat) : Int) < (b.length : Int) := ⟨by omega, by omega⟩
 unfold F34 Closes
 rw [F30_eq hrs ha, F30_eq hrs hb, h1, h2]
 simp only [Option.bind_eq_bind, Option.bind_some, bne_self_eq_false, Bool.false_eq_true, if_false]
 rw [wa, wb, if_pos c1, if_pos c2, if_pos c3, if_pos c4, F72_eq]
 simp only [Option.bind_some, eq_code]
 rw [show a.getD (Int.toNat 0) (0, false) = at_ a 0 from rfl, show a.getD (Int.toNat ((a.length - 1 : Nat) : Int)) (0, false) = at_ a (a.length - 1) from rfl, show b.getD (Int.toNat 0) (0, false) = at_ b 0 from rfl, show b.getD (Int.toNat ((b.length - 1 : Nat) : Int)) (0, false) = at_ b (b.length - 1) from rfl]
 generalize decide (at_ a (a.length - 1) = ctr (at_ a 0)) = k1
 generalize decide (at_ b 0 = at_ a (a.length - 1)) = k2
 generalize decide (at_ b (b.length - 1) = at_ a 0) = k3
 cases k1 <;> cases k2 <;> cases k3 <;> rfl
theorem F34_bad (hrs : rs.length ≤ 1000) {a b : List Case} (ha : a.length ≤ 1000) (hb : b.length ≤ 1000) (h : ¬ (ver T rs a = 0 ∧ ver T rs b = 0)) : ∃ e, F34 T rs a b = some e ∧ e ≠ 0 := by
 unfold F34
 rw [F30_eq hrs ha, F30_eq hrs hb]
 simp only [Option.bind_eq_bind, Option.bind_some]
 by_cases h1 : ver T rs a = 0
 · have h2 : ver T rs b ≠ 0 := fun g => h ⟨h1, g⟩
   rw [if_neg (by simp [h1]), if_pos (by simpa using h2)]
   exact ⟨_, rfl, h2⟩
 rw [if_pos (by simpa using h1)]
 exact ⟨_, rfl, h1⟩
end plain
open plain in
theorem plain (p0 : Int) (p1 : List (Int × Int)) (p2 p3 : List Int) (wp0 : (Lit.int .u8 p0).wf = true) (wp1 : ∀ x ∈ p1, (Lit.int .u8 x.1).wf = true ∧ (Lit.int .u8 x.2).wf = true) (wp2 : ∀ x ∈ p2, (Lit.int .u8 x).wf = true) (wp3 : ∀ x ∈ p3, (Lit.int .u8 x).wf = true) : F8 p0 p1 p2 p3 = some true := by
 obtain ⟨T, rs, f40, t1, t2, hv, hr⟩ := made (p1 := p1) (b8_of wp0) (fun x hx => ⟨b8_of (wp1 x hx).1, b8_of (wp1 x hx).2⟩)
 obtain ⟨a, fa, la, oa⟩ := list_loop0 (T := T) (rs := rs) (p1 := p1) (p2 := p2) (p3 := p3) t1 (by omega) (fun x hx => b8_of (wp2 x hx)) 6 0 [] rfl (Nat.zero_le _) (fun c hc => by cases hc)
 obtain ⟨b, fb, lb, ob⟩ := list_loop1 (T := T) (rs := rs) (p1 := p1) (p2 := p2) (p3 := p3) (q := a) t1 (by omega) (fun x hx => b8_of (wp3 x hx)) 6 0 [] rfl (Nat.zero_le _) (fun c hc => by cases hc)
 have hc := chk_made t1 t2 hv hr
 have q : rs.length ≤ 1000 := by omega
 have fa' : F8l0 p1 p2 p3 (T, rs) [] 0 = some a := fa
 have fb' : F8l1 p1 p2 p3 (T, rs) a [] 0 = some b := fb
 unfold F8
 rw [f40]
 simp only [Option.bind_eq_bind, Option.bind_some]
 rw [fa']
 simp only [Option.bind_some]
 rw [fb']
 simp only [Option.bind_some]
 rw [F30_eq q (by omega), F42_eq hc q (by omega) oa]
 simp only [Option.bind_some]
 rw [F30_eq q (by omega), F42_eq hc q (by omega) ob]
 have e0 : ∀ x : Int, ((x == 0) == decide (x = 0)) = true := fun x => by
  by_cases h : x = 0
  · rw [h]; rfl
  rw [decide_eq_false h]; simp [h]
 simp only [e0, Option.bind_some, Bool.not_true, Bool.false_eq_true, if_false]
 by_cases h : ver T rs a = 0 ∧ ver T rs b = 0
 · obtain ⟨h1, h2⟩ := h
   obtain ⟨a1, a2⟩ := ver_ok h1
   obtain ⟨b1, b2⟩ := ver_ok h2
   have wa : w64 ((a.length : Int) - 1) = ((a.length - 1 : Nat) : Int) := by rw [w64_in (by omega) (by omega)]; omega
   have wb : w64 ((b.length : Int) - 1) = ((b.length - 1 : Nat) : Int) := by rw [w64_in (by omega) (by omega)]; omega
   have c1 : (0 : Int) ≤ 0 ∧ (0 : Int) < (a.length : Int) := ⟨by omega, by omega⟩
   have c2 : (0 : Int) ≤ ((a.length - 1 : Nat) : Int) ∧ ((a.length - 1 : Nat) : Int) < (a.length : Int) := ⟨by omega, by omega⟩
   have c3 : (0 : Int) ≤ 0 ∧ (0 : Int) < (b.length : Int) := ⟨by omega, by omega⟩
   have c4 : (0 : Int) ≤ ((b.length - 1 : Nat) : Int) ∧ ((b.length - 1 : Nat) : Int) < (b.length : Int) := ⟨by omega, by omega⟩
   rw [F34_val q (by omega) (by omega) h1 h2, decide_eq_true h1, decide_eq_true h2]
   simp only [if_true]
   rw [wa, wb, if_pos c1, if_pos c2, if_pos c3, if_pos c4, F43_eq]
   simp only [Option.bind_some, eq_code]
   rw [show a.getD (Int.toNat 0) (0, false) = at_ a 0 from rfl, show a.getD (Int.toNat ((a.length - 1 : Nat) : Int)) (0, false) = at_ a (a.length - 1) from rfl, show b.getD (Int.toNat 0) (0, false) = at_ b 0 from rfl, show b.getD (Int.toNat ((b.length - 1 : Nat) : Int)) (0, false) = at_ b (b.length - 1) from rfl]
   have hm : (if decide (at_ a (a.length - 1) = ctr (at_ a 0)) = true then if decide (at_ b 0 = at_ a (a.length - 1)) = true then some (decide (at_ b (b.length - 1) = at_ a 0)) else some false else some false) = some (Closes a b) := by
    unfold Closes
    generalize decide (at_ a (a.length - 1) = ctr (at_ a 0)) = k1
    generalize decide (at_ b 0 = at_ a (a.length - 1)) = k2
    generalize decide (at_ b (b.length - 1) = at_ a 0) = k3
    cases k1 <;> cases k2 <;> cases k3 <;> rfl
   rw [hm]
   simp only [Option.bind_some]
   cases he : Closes a b
   · rfl
   rw [F41_eq hv t1 t2 q (fun c hc => by cases hc) (by simp)]
   have hw : Wrong rs := by
    unfold Closes at he
    simp only [Bool.and_eq_true, decide_eq_true_eq] at he
    obtain ⟨k1, k2, k3⟩ := he
    refine ⟨at_ a 0, ?_, ?_⟩
    · rw [← k1]; exact walk_reach (ver_walk h1) _ (by omega)
    rw [← k1, ← k2]
    have := walk_reach (ver_walk h2) (b.length - 1) (by omega)
    rwa [k3] at this
   have hn : ((List.range (2 ^ T.toNat)).map fun i : Nat => (i : Int)).filter (good rs []) = [] := by
    rw [List.filter_eq_nil_iff]
    intro v _ hg
    exact (good_iff.1 hg).1.not_wrong hw
   rw [hn]
   rfl
 obtain ⟨e, f, g⟩ := F34_bad q (by omega) (by omega) h
 rw [f]
 have g' : (e == 0) = false := by simpa using g
 by_cases h1 : ver T rs a = 0
 · have h2 : ¬ ver T rs b = 0 := fun k => h ⟨h1, k⟩
   rw [decide_eq_true h1, decide_eq_false h2]
   simp only [if_true, Bool.false_eq_true, if_false, Option.bind_some, g']
   rfl
 rw [decide_eq_false h1]
 simp only [Bool.false_eq_true, if_false, Option.bind_some, g']
 rfl
end Go.Proofs.Ytiaippkjgmccoaa
