/- First, Certain and Broken answer as the reference does. -/
import Derived.Test.YtiaippkjgmccoaaLK3
set_option linter.unusedVariables false
namespace Go.Proofs.Ytiaippkjgmccoaa.plain
open Go Go.Cl
section
variable {T : Int} {rs : Rules} {l : List Case}
theorem cons_get {α : Type} {l : List α} {v : Nat} (d : α) (hlt : v < l.length) : l.getD v d = l[v] := by rw [List.getD_eq_getElem?_getD, List.getElem?_eq_getElem hlt]; rfl
theorem w64_up {v : Nat} (h : v ≤ 1000000) : w64 ((v : Int) + 1) = ((v + 1 : Nat) : Int) := by rw [w64_in (by omega) (by omega)]; omega
theorem F16_eq (hrs : rs.length ≤ 1000) : F16 T rs = some (T, rs) := by
 have go : ∀ (d v : Nat), v + d = rs.length → F16l0 T rs v (rs.take v) = some rs := by
  intro d
  induction d with
  | zero => intro v hd; rw [F16l0, if_neg (by simp; omega), List.take_of_length_le (by omega)]
  | succ d ih =>
   intro v hd
   have hlt : v < rs.length := by omega
   rw [F16l0, if_pos (by simp; omega), if_pos ⟨by omega, by omega⟩, w64_up (by omega)]
   simp only [Option.bind_eq_bind, Option.bind_some, show ((v : Int)).toNat = v from rfl, cons_get _ hlt]
   rw [if_pos (by rw [List.length_take]; omega)]
   have := ih (v + 1) (by omega)
   rw [List.take_add_one, List.getElem?_eq_getElem hlt] at this
   exact this
 unfold F16
 have := go rs.length 0 (by omega)
 rw [List.take_zero] at this
 rw [show (0 : Int) = ((0 : Nat) : Int) from rfl, this]
 rfl
theorem F17_eq (hl : l.length ≤ 1000) : F17 l = some l := by
 have go : ∀ (d v : Nat), v + d = l.length → F17l0 l (l.take v) v = some l := by
  intro d
  induction d with
  | zero => intro v hd; rw [F17l0, if_neg (by simp; omega), List.take_of_length_le (by omega)]
  | succ d ih =>
   intro v hd
   have hlt : v < l.length := by omega
   rw [F17l0, if_pos (by simp; omega), if_pos ⟨by omega, by omega⟩, w64_up (by omega)]
   simp only [Option.bind_eq_bind, Option.bind_some, show ((v : Int)).toNat = v from rfl, cons_get _ hlt]
   rw [if_pos (by rw [List.length_take]; omega)]
   have := ih (v + 1) (by omega)
   rw [List.take_add_one, List.getElem?_eq_getElem hlt] at this
   exact this
 unfold F17
 have := go l.length 0 (by omega)
 rw [List.take_zero] at this
 rw [show (0 : Int) = ((0 : Nat) : Int) from rfl, this]
 rfl
theorem F25_eq {a : List Int} (ha : a.length ≤ 1000) : F25 a a = some true := by
 have go : ∀ (d v : Nat), v + d = a.length → F25l0 a a v = some (.inr ()) := by
  intro d
  induction d with
  | zero => intro v hd; rw [F25l0, if_neg (by simp; omega)]
  | succ d ih =>
   intro v hd
   have hlt : v < a.length := by omega
   rw [F25l0, if_pos (by simp; omega), if_pos ⟨by omega, by omega⟩, w64_up (by omega)]
   simp only [Option.bind_eq_bind, Option.bind_some]
   rw [if_pos ⟨by omega, by omega⟩]
   simp only [bne_self_eq_false, Bool.false_eq_true, if_false]
   exact ih (v + 1) (by omega)
 unfold F25
 rw [if_neg (by simp), show (0 : Int) = ((0 : Nat) : Int) from rfl, go a.length 0 (by omega)]
 rfl
def hb (vals : List Bool) (c : Case) : Bool := vals.getD c.1.toNat false == c.2
theorem F62_eq {vals : List Bool} {c : Case} (hT : (vals.length : Int) = T) (hc : okC T c) : F62 c.1 c.2 vals = some (hb vals c) := by
 unfold F62
 rw [if_pos ⟨hc.1, by rw [hT]; exact hc.2⟩]
 rfl
theorem F63_eq {vals : List Bool} {a b : Case} (hT : (vals.length : Int) = T) (ha : okC T a) (hc : okC T b) : F63 a.1 a.2 b.1 b.2 vals = some (hb vals a || hb vals b) := by
 have cb : (0 : Int) ≤ b.1 ∧ b.1 < (vals.length : Int) := ⟨hc.1, by rw [hT]; exact hc.2⟩
 unfold F63
 rw [if_pos ⟨ha.1, by rw [hT]; exact ha.2⟩]
 simp only [Option.bind_eq_bind, Option.bind_some]
 unfold hb
 cases e : (vals.getD a.1.toNat false == a.2)
 · rw [if_neg (by decide), if_pos cb]; rfl
 rfl
theorem chk2_ok (h : chk2 T rs l = 0) : 1 ≤ T ∧ T ≤ 24 ∧ rs.length ≤ 80 ∧ okR T rs ∧ l.length ≤ 24 ∧ ∀ y ∈ l, okC T y := by
 unfold chk2 at h
 split at h
 · exact absurd h (by assumption)
 rename_i h1
 obtain ⟨a, b, c, d⟩ := chk_ok (Classical.not_not.1 h1)
 split at h
 · exact absurd h (by decide)
 split at h
 · rename_i h2 h3; exact ⟨a, b, c, d, by omega, inC_iff.1 h3⟩
 exact absurd h (by decide)
end
end Go.Proofs.Ytiaippkjgmccoaa.plain
