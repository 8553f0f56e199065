/- The parts and waves of a record: what says them, and that there is but one. -/
import Derived.KernelRfl
set_option linter.unusedVariables false
namespace Go.Proofs.Ytdekbjfjbbdjgaa.plain
abbrev Edges := List (Int × Int × Int)
def sg (S x : Int) : Int := if x < S then 1 else -1
structure Sol (n S : Int) (E : Edges) (part wave : Int → Int) : Prop where
 edge : ∀ e ∈ E, part e.1 = part e.2.1
 dom : ∀ x, 0 ≤ x → x < n → 0 ≤ part x ∧ part x ≤ x
 idem : ∀ x, 0 ≤ x → x < n → part (part x) = part x
 zero : ∀ x, 0 ≤ x → x < n → wave (part x) = 0
 det : ∀ w : Int → Int, (∀ e ∈ E, w e.1 + w e.2.1 = e.2.2) → ∀ x, 0 ≤ x → x < n → wave x = w x - sg S x * sg S (part x) * w (part x)
 conn : ∀ c : Int → Int, (∀ e ∈ E, c e.1 = c e.2.1) → ∀ x, 0 ≤ x → x < n → c x = c (part x)
def Ends (n S : Int) (E : Edges) : Prop := ∀ e ∈ E, 0 ≤ e.1 ∧ e.1 < S ∧ S ≤ e.2.1 ∧ e.2.1 < n
section
variable {n S : Int} {E : Edges} {part wave part' wave' : Int → Int}
theorem Sol.part_eq (h : Sol n S E part wave) (h' : Sol n S E part' wave') {x : Int} (h0 : 0 ≤ x) (hn : x < n) : part x = part' x := by
 have e1 := h.conn part' h'.edge x h0 hn
 have e2 := h'.conn part h.edge x h0 hn
 have d1 := h.dom x h0 hn
 have d2 := h'.dom x h0 hn
 have d3 := h'.dom (part x) d1.1 (by omega)
 have d4 := h.dom (part' x) d2.1 (by omega)
 omega
def Good (E : Edges) (wave : Int → Int) : Prop := ∀ e ∈ E, wave e.1 + wave e.2.1 = e.2.2
theorem Sol.good (h : Sol n S E part wave) (he : Ends n S E) {w : Int → Int} (hw : Good E w) : Good E wave := by
 intro e hm
 obtain ⟨h1, h2, h3, h4⟩ := he e hm
 have a := h.det w hw e.1 h1 (by omega)
 have b := h.det w hw e.2.1 (by omega) h4
 have c := hw e hm
 have p := h.edge e hm
 rw [← p] at b
 have s1 : sg S e.1 = 1 := if_pos h2
 have s2 : sg S e.2.1 = -1 := if_neg (by omega)
 rw [s1] at a
 rw [s2] at b
 rw [a, b]
 have : (1 : Int) * sg S (part e.1) * w (part e.1) + -1 * sg S (part e.1) * w (part e.1) = 0 := by
  rw [Int.one_mul, Int.neg_mul, Int.neg_mul, Int.one_mul]; omega
 omega
theorem Sol.good_iff (h : Sol n S E part wave) (h' : Sol n S E part' wave') (he : Ends n S E) : Good E wave ↔ Good E wave' :=
 ⟨fun hg => h'.good he hg, fun hg => h.good he hg⟩
theorem Sol.wave_eq (h : Sol n S E part wave) (h' : Sol n S E part' wave') (hg : Good E wave') {x : Int} (h0 : 0 ≤ x) (hn : x < n) : wave x = wave' x := by
 have a := h.det wave' hg x h0 hn
 rw [h.part_eq h' h0 hn, h'.zero x h0 hn] at a
 omega
end
end Go.Proofs.Ytdekbjfjbbdjgaa.plain
