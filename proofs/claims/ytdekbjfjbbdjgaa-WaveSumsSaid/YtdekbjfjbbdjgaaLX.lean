/- Records that are turned: later hours, sun and moon exchanged. -/
import Derived.Test.YtdekbjfjbbdjgaaG9
import Derived.Test.YtdekbjfjbbdjgaaLN
import Derived.Test.YtdekbjfjbbdjgaaLWh
set_option linter.unusedVariables false
namespace Go.Proofs.Ytdekbjfjbbdjgaa.plain
open Go Go.Cl
def Flat (E : Edges) (c : Int → Int) : Prop := ∀ e ∈ E, c e.1 = c e.2.1
def Turns (n : Int) (E E' : Edges) (ρ : Int → Int) : Prop := ∀ c, Flat E c → ∃ c', Flat E' c' ∧ ∀ x, 0 ≤ x → x < n → c' (ρ x) = c x
section
variable {n S S' : Int} {E E' : Edges} {p w p' w' : Int → Int}
theorem Turns.same {ρ : Int → Int} (t : Turns n E E' ρ) (so : Sol n S E p w) (so' : Sol n S' E' p' w') {a b : Int} (ha : 0 ≤ a ∧ a < n) (hb : 0 ≤ b ∧ b < n) (ra : 0 ≤ ρ a ∧ ρ a < n) (rb : 0 ≤ ρ b ∧ ρ b < n) (h : p' (ρ a) = p' (ρ b)) : p a = p b := by
 obtain ⟨c', f, e⟩ := t p so.edge
 have x := so'.conn c' f (ρ a) ra.1 ra.2
 have y := so'.conn c' f (ρ b) rb.1 rb.2
 rw [h] at x
 rw [← e a ha.1 ha.2, ← e b hb.1 hb.2, x, y]
theorem Turns.firsts {ρ : Int → Int} {P P' : List Int} (t : Turns n E E' ρ) (hr : ∀ x, 0 ≤ x → x < n → 0 ≤ ρ x ∧ ρ x < n) (so : Sol n S E (at0 P) w) (so' : Sol n S' E' (at0 P') w') : firsts n.toNat P ≤ firsts n.toNat P' := by
 unfold plain.firsts
 rw [List.countP_eq_length_filter, List.countP_eq_length_filter]
 have hn : (((List.range n.toNat).filter fun i : Nat => decide (at0 P (i : Int) = (i : Int))).map fun i : Nat => (at0 P' (ρ (i : Int))).toNat).Nodup := by
  refine List.pairwise_map.2 ((List.nodup_range.filter _).imp_of_mem fun {i j} hi hj hne => ?_)
  obtain ⟨i1, i2⟩ := List.mem_filter.1 hi
  obtain ⟨j1, j2⟩ := List.mem_filter.1 hj
  have i1 := List.mem_range.1 i1
  have j1 := List.mem_range.1 j1
  simp only [decide_eq_true_eq] at i2 j2
  intro e
  have ri := hr (i : Int) (by omega) (by omega)
  have rj := hr (j : Int) (by omega) (by omega)
  have di := so'.dom _ ri.1 ri.2
  have dj := so'.dom _ rj.1 rj.2
  have := t.same so so' (a := (i : Int)) (b := (j : Int)) ⟨by omega, by omega⟩ ⟨by omega, by omega⟩ ri rj (by omega)
  omega
 have := len_le_sub (m := (List.range n.toNat).filter fun i : Nat => decide (at0 P' (i : Int) = (i : Int))) hn (fun x hx => by
  obtain ⟨i, hi, rfl⟩ := List.mem_map.1 hx
  have i1 := List.mem_range.1 (List.mem_filter.1 hi).1
  have ri := hr (i : Int) (by omega) (by omega)
  have di := so'.dom _ ri.1 ri.2
  have ii := so'.idem _ ri.1 ri.2
  refine List.mem_filter.2 ⟨List.mem_range.2 (by omega), ?_⟩
  simp only [decide_eq_true_eq, Int.toNat_of_nonneg di.1]
  exact ii)
 simpa using this
end
def later (L : Int) (rd : List (Int × Int)) : List (Int × Int) := rd.map fun y => (y.1 + L, y.2)
def rot (S M L : Int) (x : Int) : Int := if x < S then (x + L) % S else S + (x - S + L) % M
section
variable {S M L : Int} {rd : List (Int × Int)}
theorem rot_sun (hS : 0 < S) (hM : 0 < M) {h : Int} : rot S M L (h % S) = (h + L) % S := by
 have := Int.emod_lt_of_pos h hS
 unfold rot
 rw [if_pos this, Int.emod_add_emod]
theorem rot_moon (hS : 0 < S) (hM : 0 < M) {h : Int} : rot S M L (S + h % M) = S + (h + L) % M := by
 have := Int.emod_nonneg h (show M ≠ 0 by omega)
 unfold rot
 rw [if_neg (by omega), show S + h % M - S = h % M by omega, Int.emod_add_emod]
theorem rot_in (hS : 0 < S) (hM : 0 < M) {x : Int} (h0 : 0 ≤ x) (hn : x < S + M) : 0 ≤ rot S M L x ∧ rot S M L x < S + M := by
 unfold rot
 split
 · have a := Int.emod_nonneg (x + L) (show S ≠ 0 by omega)
   have b := Int.emod_lt_of_pos (x + L) hS
   omega
 have a := Int.emod_nonneg (x - S + L) (show M ≠ 0 by omega)
 have b := Int.emod_lt_of_pos (x - S + L) hM
 omega
theorem rot_back (hS : 0 < S) (hM : 0 < M) {x : Int} (h0 : 0 ≤ x) (hn : x < S + M) : rot S M (-L) (rot S M L x) = x := by
 by_cases c : x < S
 · have e : x = x % S := (Int.emod_eq_of_lt h0 c).symm
   rw [e, rot_sun hS hM, rot_sun hS hM, show x + L + -L = x by omega]
 have e : x = S + (x - S) % M := by rw [Int.emod_eq_of_lt (by omega) (by omega)]; omega
 rw [e, rot_moon hS hM, rot_moon hS hM, show x - S + L + -L = x - S by omega]
theorem later_turns (hS : 0 < S) (hM : 0 < M) (h0 : ∀ y ∈ rd, 0 ≤ y.1) (hL : 0 ≤ L) : Turns (S + M) (edges S M rd) (edges S M (later L rd)) (rot S M L) := fun c hc => by
 refine ⟨fun x => c (rot S M (-L) x), fun e he => ?_, fun x x0 xn => ?_⟩
 · obtain ⟨z, hz, rfl⟩ := List.mem_map.1 he
   obtain ⟨y, hy, rfl⟩ := List.mem_map.1 hz
   have hy0 := h0 y hy
   have := hc _ (List.mem_map_of_mem (f := fun y : Int × Int => (Int.tmod y.1 S, S + Int.tmod y.1 M, y.2)) hy)
   dsimp only at this ⊢
   rw [Int.tmod_eq_emod_of_nonneg hy0, Int.tmod_eq_emod_of_nonneg hy0] at this
   rw [Int.tmod_eq_emod_of_nonneg (by omega), Int.tmod_eq_emod_of_nonneg (by omega), rot_sun hS hM, rot_moon hS hM, show y.1 + L + -L = y.1 by omega]
   exact this
 show c (rot S M (-L) (rot S M L x)) = c x
 rw [rot_back hS hM x0 xn]
theorem later_turns_back (hS : 0 < S) (hM : 0 < M) (h0 : ∀ y ∈ rd, 0 ≤ y.1) (hL : 0 ≤ L) : Turns (S + M) (edges S M (later L rd)) (edges S M rd) (rot S M (-L)) := fun c hc => by
 refine ⟨fun x => c (rot S M L x), fun e he => ?_, fun x x0 xn => ?_⟩
 · obtain ⟨y, hy, rfl⟩ := List.mem_map.1 he
   have hy0 := h0 y hy
   have := hc _ (List.mem_map_of_mem (f := fun y : Int × Int => (Int.tmod y.1 S, S + Int.tmod y.1 M, y.2)) (List.mem_map_of_mem (f := fun y : Int × Int => (y.1 + L, y.2)) hy))
   dsimp only at this ⊢
   rw [Int.tmod_eq_emod_of_nonneg (by omega), Int.tmod_eq_emod_of_nonneg (by omega)] at this
   rw [Int.tmod_eq_emod_of_nonneg hy0, Int.tmod_eq_emod_of_nonneg hy0, rot_sun hS hM, rot_moon hS hM]
   exact this
 show c (rot S M L (rot S M (-L) x)) = c x
 have := rot_back (L := -L) hS hM x0 xn
 rw [Int.neg_neg] at this
 rw [this]
def swp (S M : Int) (x : Int) : Int := if x < S then M + x else x - S
theorem swp_turns (hS : 0 < S) (hM : 0 < M) (h0 : ∀ y ∈ rd, 0 ≤ y.1) : Turns (S + M) (edges S M rd) (edges M S rd) (swp S M) := fun c hc => by
 refine ⟨fun x => c (swp M S x), fun e he => ?_, fun x x0 xn => ?_⟩
 · obtain ⟨y, hy, rfl⟩ := List.mem_map.1 he
   have hy0 := h0 y hy
   have a := tmod_in (S := S) hy0 (by omega)
   have b := tmod_in (S := M) hy0 (by omega)
   have := hc _ (List.mem_map_of_mem (f := fun y : Int × Int => (Int.tmod y.1 S, S + Int.tmod y.1 M, y.2)) hy)
   dsimp only at this ⊢
   unfold swp
   rw [if_pos b.2, if_neg (by omega), show M + Int.tmod y.1 S - M = Int.tmod y.1 S by omega]
   exact this.symm
 show c (swp M S (swp S M x)) = c x
 unfold swp
 by_cases q : x < S
 · rw [if_pos q, if_neg (by omega), show M + x - M = x by omega]
 rw [if_neg q, if_pos (by omega), show S + (x - S) = x by omega]
theorem later_good (hS : 0 < S) (hM : 0 < M) (h0 : ∀ y ∈ rd, 0 ≤ y.1) (hL : 0 ≤ L) : (∃ w, Good (edges S M (later L rd)) w) ↔ ∃ w, Good (edges S M rd) w := by
 constructor
 · rintro ⟨w, hw⟩
   refine ⟨fun x => w (rot S M L x), good_rd.2 fun y hy => ?_⟩
   have hy0 := h0 y hy
   have := good_rd.1 hw (y.1 + L, y.2) (List.mem_map_of_mem (f := fun y : Int × Int => (y.1 + L, y.2)) hy)
   unfold goodR at this ⊢
   dsimp only at this ⊢
   rw [Int.tmod_eq_emod_of_nonneg (by omega), Int.tmod_eq_emod_of_nonneg (by omega)] at this
   rw [Int.tmod_eq_emod_of_nonneg hy0, Int.tmod_eq_emod_of_nonneg hy0, rot_sun hS hM, rot_moon hS hM]
   exact this
 rintro ⟨w, hw⟩
 refine ⟨fun x => w (rot S M (-L) x), good_rd.2 fun z hz => ?_⟩
 obtain ⟨y, hy, rfl⟩ := List.mem_map.1 hz
 have hy0 := h0 y hy
 have := good_rd.1 hw y hy
 unfold goodR at this ⊢
 dsimp only at this ⊢
 rw [Int.tmod_eq_emod_of_nonneg hy0, Int.tmod_eq_emod_of_nonneg hy0] at this
 rw [Int.tmod_eq_emod_of_nonneg (by omega), Int.tmod_eq_emod_of_nonneg (by omega), rot_sun hS hM, rot_moon hS hM, show y.1 + L + -L = y.1 by omega]
 exact this
theorem swp_good1 (hS : 0 < S) (hM : 0 < M) (h0 : ∀ y ∈ rd, 0 ≤ y.1) : (∃ w, Good (edges S M rd) w) → ∃ w, Good (edges M S rd) w := by
 rintro ⟨w, hw⟩
 refine ⟨fun x => w (swp M S x), good_rd.2 fun y hy => ?_⟩
 have hy0 := h0 y hy
 have a := tmod_in (S := S) hy0 (by omega)
 have b := tmod_in (S := M) hy0 (by omega)
 have := good_rd.1 hw y hy
 unfold goodR at this ⊢
 dsimp only
 unfold swp
 rw [if_pos b.2, if_neg (by omega), show M + Int.tmod y.1 S - M = Int.tmod y.1 S by omega]
 omega
theorem later_less {i : Nat} : lessOf (later L rd) i = later L (lessOf rd i) := by
 unfold lessOf later
 rw [List.map_append, List.map_take, List.map_drop]
end
end Go.Proofs.Ytdekbjfjbbdjgaa.plain
