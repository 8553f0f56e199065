/- The plain law of WaveEnough: as many hours in a row as are enough let all values follow; with one less some do not. -/
import Derived.Test.YtdekbjfjbbdjgaaG13
import Derived.Test.YtdekbjfjbbdjgaaLS
import Derived.Test.YtdekbjfjbbdjgaaLWb
set_option linter.unusedVariables false
namespace Go.Proofs.Ytdekbjfjbbdjgaa.waveEnough
open Go Go.Cl Go.Proofs.Ytdekbjfjbbdjgaa.plain
theorem period_mod {α : Type} {p n : Nat} {f : Nat → α} (hp : 1 ≤ p) (h : ∀ i, i + p < n → f (i + p) = f i) : ∀ (d i : Nat), i ≤ d → i < n → f i = f (i % p) := by
 intro d
 induction d with
 | zero => intro i hi _; have : i = 0 := by omega
           subst this; rw [Nat.zero_mod]
 | succ d ih =>
  intro i hi hn
  by_cases c : i < p
  · rw [Nat.mod_eq_of_lt c]
  have e := h (i - p) (by omega)
  rw [show i - p + p = i by omega] at e
  rw [e, ih (i - p) (by omega) (by omega), ← Nat.mod_eq_sub_mod (show i ≥ p by omega)]
theorem fine_wilf {α : Type} : ∀ (s p q : Nat), p + q ≤ s → 1 ≤ p → 1 ≤ q → ∀ (n : Nat) (f : Nat → α), p + q ≤ n + Nat.gcd p q → (∀ i, i + p < n → f (i + p) = f i) → (∀ i, i + q < n → f (i + q) = f i) →
 ∀ i j, i < n → j < n → i % Nat.gcd p q = j % Nat.gcd p q → f i = f j := by
 intro s
 induction s with
 | zero => intro p q h hp hq; omega
 | succ s ih =>
  have main : ∀ p q, p + q ≤ s + 1 → 1 ≤ p → 1 ≤ q → p ≤ q → ∀ (n : Nat) (f : Nat → α), p + q ≤ n + Nat.gcd p q → (∀ i, i + p < n → f (i + p) = f i) → (∀ i, i + q < n → f (i + q) = f i) →
   ∀ i j, i < n → j < n → i % Nat.gcd p q = j % Nat.gcd p q → f i = f j := by
   intro p q hs hp hq hpq n f hn fp fq i j hi hj hij
   have ei := period_mod hp fp i i (Nat.le_refl _) hi
   have ej := period_mod hp fp j j (Nat.le_refl _) hj
   by_cases c : p = q
   · subst c
     rw [Nat.gcd_self] at hij
     rw [ei, ej, hij]
   have hg : Nat.gcd p (q - p) = Nat.gcd p q := Nat.gcd_sub_self_right hpq
   have gq : Nat.gcd p q ≤ q - p := by
    rw [← hg]
    exact Nat.le_of_dvd (by omega) (Nat.gcd_dvd_right _ _)
   have gp : Nat.gcd p q ∣ p := Nat.gcd_dvd_left _ _
   have mi := Nat.mod_lt i (show 0 < p by omega)
   have mj := Nat.mod_lt j (show 0 < p by omega)
   rw [ei, ej]
   refine ih p (q - p) (by omega) hp (by omega) (n - p) f (by omega) (fun k hk => fp k (by omega)) (fun k hk => ?_) (i % p) (j % p) (by omega) (by omega) ?_
   · have a := fp (k + (q - p)) (by omega)
     rw [show k + (q - p) + p = k + q by omega, fq k (by omega)] at a
     exact a.symm
   rw [hg, Nat.mod_mod_of_dvd _ gp, Nat.mod_mod_of_dvd _ gp, hij]
  intro p q hs hp hq n f hn fp fq i j hi hj hij
  by_cases c : p ≤ q
  · exact main p q hs hp hq c n f hn fp fq i j hi hj hij
  exact main q p (by omega) hq hp (by omega) n f (by rw [Nat.gcd_comm]; omega) fq fp i j hi hj (by rw [Nat.gcd_comm]; exact hij)
theorem hit {s h0 x : Nat} (hx : x < s) : ∃ i, i < s ∧ (h0 + i) % s = x := by
 have e := Nat.div_add_mod h0 s
 have l := Nat.mod_lt h0 (show 0 < s by omega)
 by_cases c : h0 % s ≤ x
 · refine ⟨x - h0 % s, by omega, ?_⟩
   have : h0 + (x - h0 % s) = s * (h0 / s) + x := by omega
   rw [this, Nat.mul_add_mod, Nat.mod_eq_of_lt hx]
 refine ⟨x + s - h0 % s, by omega, ?_⟩
 have : h0 + (x + s - h0 % s) = s * (h0 / s + 1) + x := by rw [Nat.mul_add]; omega
 rw [this, Nat.mul_add_mod, Nat.mod_eq_of_lt hx]
theorem cancel_mod {h0 i j g : Nat} (h : (h0 + i) % g = (h0 + j) % g) : i % g = j % g := by
 have main : ∀ {i j : Nat}, j ≤ i → (h0 + i) % g = (h0 + j) % g → i % g = j % g := fun {i j} l h => by
  have := Nat.sub_mod_eq_zero_of_mod_eq h
  rw [show h0 + i - (h0 + j) = i - j by omega] at this
  obtain ⟨c, hc⟩ := Nat.dvd_of_mod_eq_zero this
  have : i = j + g * c := by omega
  rw [this, Nat.add_mul_mod_self_left]
 by_cases c : j ≤ i
 · exact main c h
 exact (main (by omega) h.symm).symm
def row (val : Nat → Int) (h0 n : Nat) : List (Int × Int) := (List.range' h0 n).map fun h : Nat => ((h : Int), val h)
theorem row_succ (val : Nat → Int) (h0 n : Nat) : row val h0 (n + 1) = row val h0 n ++ [(((h0 + n : Nat) : Int), val (h0 + n))] := by
 unfold row
 rw [List.range'_1_concat, List.map_append]
 rfl
theorem row_len (val : Nat → Int) (h0 n : Nat) : (row val h0 n).length = n := by unfold row; rw [List.length_map, List.length_range']
theorem row_mem {val : Nat → Int} {h0 n : Nat} {y : Int × Int} : y ∈ row val h0 n ↔ ∃ i, i < n ∧ y = (((h0 + i : Nat) : Int), val (h0 + i)) := by
 unfold row
 rw [List.mem_map]
 constructor
 · rintro ⟨h, hh, rfl⟩
   rw [List.mem_range'_1] at hh
   exact ⟨h - h0, by omega, by rw [show h0 + (h - h0) = h by omega]⟩
 rintro ⟨i, hi, rfl⟩
 exact ⟨h0 + i, by rw [List.mem_range'_1]; omega, rfl⟩
theorem row_at {val : Nat → Int} {h0 n j : Nat} (hj : j < n) : (row val h0 n)[j]? = some (((h0 + j : Nat) : Int), val (h0 + j)) := by
 unfold row
 rw [List.getElem?_map, List.getElem?_eq_getElem (by rw [List.length_range']; exact hj)]
 simp
theorem row_asc (val : Nat → Int) (h0 n : Nat) : Asc (row val h0 n) := fun j y hy => by
 by_cases c : j = 0
 · exact .inl c
 right
 have hj : j < n := by
  obtain ⟨x, _⟩ := List.getElem?_eq_some_iff.1 hy
  rw [row_len] at x; exact x
 rw [row_at hj] at hy
 cases hy
 rw [List.getD_eq_getElem?_getD, row_at (by omega)]
 show ((h0 + (j - 1) : Nat) : Int) < ((h0 + j : Nat) : Int)
 omega
section
variable {s m : Nat} {val : Nat → Int} {h0 n : Nat}
theorem row_rec (s1 : 1 ≤ s) (s2 : s ≤ 12) (m1 : 1 ≤ m) (m2 : m ≤ 12) (hh : h0 ≤ 255) (hn : n ≤ 24) (hv : ∀ h, -2000 ≤ val h ∧ val h ≤ 2000) : Rec0 (s : Int) (m : Int) (row val h0 n) := by
 refine ⟨by omega, by omega, by rw [row_len]; omega, fun y hy => ?_, fun y hy => ?_⟩
 · obtain ⟨i, hi, rfl⟩ := row_mem.1 hy
   dsimp only; omega
 obtain ⟨i, hi, rfl⟩ := row_mem.1 hy
 have := hv (h0 + i)
 dsimp only; omega
theorem row_edge {e : Int × Int × Int} : e ∈ edges (s : Int) (m : Int) (row val h0 n) ↔ ∃ i, i < n ∧ e = ((((h0 + i) % s : Nat) : Int), (s : Int) + (((h0 + i) % m : Nat) : Int), val (h0 + i)) := by
 unfold edges
 rw [List.mem_map]
 constructor
 · rintro ⟨y, hy, rfl⟩
   obtain ⟨i, hi, rfl⟩ := row_mem.1 hy
   exact ⟨i, hi, rfl⟩
 rintro ⟨i, hi, rfl⟩
 exact ⟨_, row_mem.2 ⟨i, hi, rfl⟩, rfl⟩
def gres (s m : Nat) (x : Int) : Int := if x < s then ((x.toNat % Nat.gcd s m : Nat) : Int) else (((x - s).toNat % Nat.gcd s m : Nat) : Int)
theorem parts_res {P W : Int → Int} (s1 : 1 ≤ s) (m1 : 1 ≤ m) (hn : s + m ≤ n + Nat.gcd s m) (so : Sol ((s : Int) + m) s (edges (s : Int) (m : Int) (row val h0 n)) P W) {x : Int} (x0 : 0 ≤ x) (xn : x < (s : Int) + m) : P x = gres s m x := by
 have gs : Nat.gcd s m ∣ s := Nat.gcd_dvd_left _ _
 have gm : Nat.gcd s m ∣ m := Nat.gcd_dvd_right _ _
 have g1 : Nat.gcd s m ≤ s := Nat.le_of_dvd (by omega) gs
 have g2 : Nat.gcd s m ≤ m := Nat.le_of_dvd (by omega) gm
 have g0 : 0 < Nat.gcd s m := Nat.gcd_pos_of_pos_left _ (by omega)
 have ed : ∀ i, i < n → P (((h0 + i) % s : Nat) : Int) = P ((s : Int) + (((h0 + i) % m : Nat) : Int)) := fun i hi => so.edge _ (row_edge.2 ⟨i, hi, rfl⟩)
 have fw := fine_wilf (s + m) s m (Nat.le_refl _) s1 m1 n (fun i => P (((h0 + i) % s : Nat) : Int)) hn
  (fun i hi => by
   show P (((h0 + (i + s)) % s : Nat) : Int) = _
   rw [← Nat.add_assoc, Nat.add_mod_right])
  (fun i hi => by
   show P (((h0 + (i + m)) % s : Nat) : Int) = P (((h0 + i) % s : Nat) : Int)
   rw [ed (i + m) hi, ed i (by omega), ← Nat.add_assoc, Nat.add_mod_right])
 have sun : ∀ a : Nat, a < s → P (a : Int) = P ((a % Nat.gcd s m : Nat) : Int) := fun a ha => by
  obtain ⟨i, hi, ei⟩ := hit (h0 := h0) ha
  have hg := Nat.mod_lt a g0
  obtain ⟨j, hj, ej⟩ := hit (s := s) (h0 := h0) (x := a % Nat.gcd s m) (by omega)
  have := fw i j (by omega) (by omega) (cancel_mod (h0 := h0) (by
   rw [← Nat.mod_mod_of_dvd (h0 + i) gs, ← Nat.mod_mod_of_dvd (h0 + j) gs, ei, ej, Nat.mod_mod]))
  rw [ei, ej] at this
  exact this
 have fl := so.conn (gres s m) (fun e he => by
  obtain ⟨i, hi, rfl⟩ := row_edge.1 he
  have l1 := Nat.mod_lt (h0 + i) (show 0 < s by omega)
  dsimp only
  unfold gres
  rw [if_pos (by omega), if_neg (by omega), show ((((h0 + i) % s : Nat) : Int)).toNat = (h0 + i) % s from rfl, show ((s : Int) + (((h0 + i) % m : Nat) : Int) - s).toNat = (h0 + i) % m by omega, Nat.mod_mod_of_dvd _ gs, Nat.mod_mod_of_dvd _ gm]) x x0 xn
 have low : P x = P (gres s m x) := by
  unfold gres
  by_cases c : x < s
  · rw [if_pos c]
    have := sun x.toNat (by omega)
    rw [show ((x.toNat : Nat) : Int) = x by omega] at this
    exact this
  rw [if_neg c]
  obtain ⟨i, hi, ei⟩ := hit (s := m) (h0 := h0) (x := (x - s).toNat) (by omega)
  have e1 := ed i (by omega)
  rw [ei, show (s : Int) + (((x - s).toNat : Nat) : Int) = x by omega] at e1
  have l1 := Nat.mod_lt (h0 + i) (show 0 < s by omega)
  rw [← e1, sun _ l1, ← ei, Nat.mod_mod_of_dvd _ gs, Nat.mod_mod_of_dvd _ gm]
 have rb : 0 ≤ gres s m x ∧ gres s m x < Nat.gcd s m := by
  unfold gres
  split
  · have := Nat.mod_lt x.toNat g0; omega
  have := Nat.mod_lt (x - s).toNat g0; omega
 have dd := so.dom (gres s m x) rb.1 (by omega)
 rw [← low] at dd
 rw [fl]
 unfold gres
 rw [if_pos (by omega), Nat.mod_eq_of_lt (by omega)]
 omega
theorem count_lt (g : Nat) : ∀ k : Nat, (List.range k).countP (fun i => decide (i < g)) = min k g := by
 intro k
 induction k with
 | zero => simp
 | succ k ih =>
  rw [List.range_succ, List.countP_append, ih, List.countP_singleton]
  by_cases c : k < g
  · rw [decide_eq_true c]; simp; omega
  rw [decide_eq_false c]; simp; omega
theorem firsts_res {P : List Int} {W : Int → Int} (s1 : 1 ≤ s) (m1 : 1 ≤ m) (hn : s + m ≤ n + Nat.gcd s m) (so : Sol ((s : Int) + m) s (edges (s : Int) (m : Int) (row val h0 n)) (at0 P) W) : firsts ((s : Int) + m).toNat P = Nat.gcd s m := by
 have g1 : Nat.gcd s m ≤ s := Nat.le_of_dvd (by omega) (Nat.gcd_dvd_left _ _)
 have g0 : 0 < Nat.gcd s m := Nat.gcd_pos_of_pos_left _ (by omega)
 have : firsts ((s : Int) + m).toNat P = (List.range ((s : Int) + m).toNat).countP (fun i => decide (i < Nat.gcd s m)) := by
  unfold plain.firsts
  refine List.countP_congr fun i hi => ?_
  rw [List.mem_range] at hi
  rw [decide_eq_true_iff, decide_eq_true_iff, parts_res s1 m1 hn so (by omega) (by omega)]
  unfold gres
  constructor
  · intro h
    split at h
    · have := Nat.mod_lt i g0
      rw [show ((i : Nat) : Int).toNat = i from rfl] at h
      omega
    have := Nat.mod_lt ((i : Int) - s).toNat g0
    omega
  intro h
  rw [if_pos (by omega), show ((i : Nat) : Int).toNat = i from rfl, Nat.mod_eq_of_lt h]
 rw [this, count_lt]
 omega
theorem firsts_less {n : Int} {P P2 : List Int} {hi : Int} (h0 : 0 ≤ hi) (hn : hi < n) (hf : at0 P hi = hi) (h2 : ∀ i, 0 ≤ i → i < n → (at0 P2 i = i ↔ at0 P i = i ∧ i ≠ hi)) : firsts n.toNat P = firsts n.toNat P2 + 1 := by
 have key : ∀ k : Nat, (k : Int) ≤ n → (List.range k).countP (fun i : Nat => decide (at0 P (i : Int) = (i : Int))) = (List.range k).countP (fun i : Nat => decide (at0 P2 (i : Int) = (i : Int))) + (if hi < (k : Int) then 1 else 0) := by
  intro k
  induction k with
  | zero => intro _; rw [if_neg (by omega)]; rfl
  | succ k ih =>
   intro hk
   rw [List.range_succ, List.countP_append, List.countP_append, ih (by omega), List.countP_singleton, List.countP_singleton]
   have e := h2 (k : Int) (by omega) (by omega)
   by_cases c : (k : Int) = hi
   · rw [decide_eq_true (show at0 P (k : Int) = (k : Int) by rw [c]; exact hf), decide_eq_false (fun x => (e.1 x).2 c), show (if hi < (k : Int) then 1 else 0) = 0 from if_neg (by omega), show (if hi < ((k + 1 : Nat) : Int) then 1 else 0) = 1 from if_pos (by omega)]
     simp
   have : (if hi < ((k + 1 : Nat) : Int) then 1 else 0) = (if hi < (k : Int) then 1 else 0) := by
    by_cases l : hi < (k : Int)
    · rw [if_pos l, if_pos (by omega)]
    rw [if_neg l, if_neg (by omega)]
   rw [this]
   by_cases q : at0 P (k : Int) = (k : Int)
   · rw [decide_eq_true q, decide_eq_true (e.2 ⟨q, c⟩)]; omega
   rw [decide_eq_false q, decide_eq_false (fun x => q (e.1 x).1)]; omega
 have := key n.toNat (by omega)
 rw [if_pos (by omega)] at this
 exact this
theorem merged {n S : Int} {E E2 : Edges} {p w p' w' : Int → Int} (so : Sol n S E p w) (so2 : Sol n S E2 p' w') {a b v : Int} (ha : 0 ≤ a ∧ a < n) (hb : 0 ≤ b ∧ b < n) (hE : ∀ e, e ∈ E2 ↔ e = (a, b, v) ∨ e ∈ E) (hne : p a ≠ p b) :
 ∃ hi, 0 ≤ hi ∧ hi < n ∧ p hi = hi ∧ ∀ i, 0 ≤ i → i < n → (p' i = i ↔ p i = i ∧ i ≠ hi) := by
 have da := so.dom a ha.1 ha.2
 have db := so.dom b hb.1 hb.2
 have ia := so.idem a ha.1 ha.2
 have ib := so.idem b hb.1 hb.2
 obtain ⟨lo, hi, hl, hab⟩ : ∃ lo hi, lo < hi ∧ ((p a = lo ∧ p b = hi) ∨ (p a = hi ∧ p b = lo)) := by
  by_cases c : p a < p b
  · exact ⟨_, _, c, .inl ⟨rfl, rfl⟩⟩
  exact ⟨p b, p a, by omega, .inr ⟨rfl, rfl⟩⟩
 have hhi : p hi = hi := by rcases hab with ⟨_, e⟩ | ⟨e, _⟩ <;> rw [← e] <;> assumption
 have hlo : p lo = lo := by rcases hab with ⟨e, _⟩ | ⟨_, e⟩ <;> rw [← e] <;> assumption
 have same : ∀ x, 0 ≤ x → x < n → p' x = if p x = hi then lo else p x := fun x x0 xn => by
  have c1 := so2.conn (fun x => if p x = hi then lo else p x) (fun e he => by
   rcases (hE e).1 he with rfl | he
   · dsimp only
     rcases hab with ⟨e1, e2⟩ | ⟨e1, e2⟩
     · rw [e1, e2, if_neg (by omega), if_pos rfl]
     rw [e1, e2, if_pos rfl, if_neg (by omega)]
   show (if p e.1 = hi then lo else p e.1) = (if p e.2.1 = hi then lo else p e.2.1)
   rw [so.edge e he]) x x0 xn
  have c2 := so.conn p' (fun e he => so2.edge e ((hE e).2 (.inr he))) x x0 xn
  have c3 := so.conn p' (fun e he => so2.edge e ((hE e).2 (.inr he))) a ha.1 ha.2
  have c4 := so.conn p' (fun e he => so2.edge e ((hE e).2 (.inr he))) b hb.1 hb.2
  have c5 : p' a = p' b := so2.edge (a, b, v) ((hE _).2 (.inl rfl))
  have d1 := so.dom x x0 xn
  have d2 := so2.dom x x0 xn
  have d3 := so.dom (p' x) d2.1 (by omega)
  have d4 := so2.dom (p x) d1.1 (by omega)
  have hll : p' hi = p' lo := by
   rcases hab with ⟨e1, e2⟩ | ⟨e1, e2⟩ <;> rw [e1] at c3 <;> rw [e2] at c4 <;> omega
  have dl : 0 ≤ lo ∧ lo < n := by
   rcases hab with ⟨e1, e2⟩ | ⟨e1, e2⟩ <;> omega
  have d5 := so2.dom lo dl.1 dl.2
  by_cases c : p x = hi
  · rw [if_pos c] at c1 ⊢
    rw [c] at c2
    split at c1 <;> omega
  rw [if_neg c] at c1 ⊢
  split at c1 <;> omega
 refine ⟨hi, by rcases hab with ⟨_, e⟩ | ⟨e, _⟩ <;> omega, by rcases hab with ⟨_, e⟩ | ⟨e, _⟩ <;> omega, hhi, fun i i0 hin => ?_⟩
 rw [same i i0 hin]
 by_cases c : p i = hi
 · rw [if_pos c]
   constructor
   · intro e
     rw [← e, hlo] at c
     omega
   rintro ⟨e1, e2⟩
   omega
 rw [if_neg c]
 constructor
 · intro e
   exact ⟨e, fun x => c (by rw [x]; exact hhi)⟩
 exact fun e => e.1
theorem one_more {P P' : List Int} {W W' : Int → Int} (s1 : 1 ≤ s) (m1 : 1 ≤ m) (so : Sol ((s : Int) + m) s (edges (s : Int) (m : Int) (row val h0 n)) (at0 P) W) (so' : Sol ((s : Int) + m) s (edges (s : Int) (m : Int) (row val h0 (n + 1))) (at0 P') W') :
 (at0 P (((h0 + n) % s : Nat) : Int) = at0 P ((s : Int) + (((h0 + n) % m : Nat) : Int)) ∧ firsts ((s : Int) + m).toNat P = firsts ((s : Int) + m).toNat P') ∨
 (at0 P (((h0 + n) % s : Nat) : Int) ≠ at0 P ((s : Int) + (((h0 + n) % m : Nat) : Int)) ∧ firsts ((s : Int) + m).toNat P = firsts ((s : Int) + m).toNat P' + 1) := by
 have l1 := Nat.mod_lt (h0 + n) (show 0 < s by omega)
 have l2 := Nat.mod_lt (h0 + n) (show 0 < m by omega)
 have hE : ∀ e, e ∈ edges (s : Int) (m : Int) (row val h0 (n + 1)) ↔ e = ((((h0 + n) % s : Nat) : Int), (s : Int) + (((h0 + n) % m : Nat) : Int), val (h0 + n)) ∨ e ∈ edges (s : Int) (m : Int) (row val h0 n) := fun e => by
  rw [row_edge, row_edge]
  constructor
  · rintro ⟨i, hi, rfl⟩
    by_cases c : i = n
    · subst c; exact .inl rfl
    exact .inr ⟨i, by omega, rfl⟩
  rintro (rfl | ⟨i, hi, rfl⟩)
  · exact ⟨n, by omega, rfl⟩
  exact ⟨i, by omega, rfl⟩
 by_cases c : at0 P (((h0 + n) % s : Nat) : Int) = at0 P ((s : Int) + (((h0 + n) % m : Nat) : Int))
 · refine .inl ⟨c, ?_⟩
   unfold plain.firsts
   refine List.countP_congr fun i hi => ?_
   rw [List.mem_range] at hi
   have e : at0 P (i : Int) = at0 P' (i : Int) := by
    have h0' : (0 : Int) ≤ i := by omega
    have hn' : (i : Int) < (s : Int) + m := by omega
    have e1 := so.conn (at0 P') (fun e he => so'.edge e ((hE e).2 (.inr he))) i h0' hn'
    have e2 := so'.conn (at0 P) (fun e he => by
     rcases (hE e).1 he with rfl | he
     · exact c
     exact so.edge e he) i h0' hn'
    have d1 := so.dom i h0' hn'
    have d2 := so'.dom i h0' hn'
    have d3 := so'.dom (at0 P i) d1.1 (by omega)
    have d4 := so.dom (at0 P' i) d2.1 (by omega)
    omega
   rw [e]
 refine .inr ⟨c, ?_⟩
 obtain ⟨hi, x1, x2, x3, x4⟩ := merged so so' (v := val (h0 + n)) ⟨by omega, by omega⟩ ⟨by omega, by omega⟩ hE c
 exact firsts_less x1 x2 x3 x4
theorem parts_low (s1 : 1 ≤ s) (s2 : s ≤ 12) (m1 : 1 ≤ m) (m2 : m ≤ 12) (hh : h0 ≤ 255) (hv : ∀ h, -2000 ≤ val h ∧ val h ≤ 2000) : ∀ (n : Nat), n ≤ 24 → ∀ {out : Out} {P W : List Int}, Both (s : Int) (m : Int) (row val h0 n) out P W → s + m ≤ firsts ((s : Int) + m).toNat P + n := by
 intro n
 induction n with
 | zero =>
  intro _ out P W B
  have : firsts ((s : Int) + m).toNat P = (List.range ((s : Int) + m).toNat).length := by
   unfold plain.firsts
   refine List.countP_eq_length.2 fun i hi => ?_
   rw [List.mem_range] at hi
   have := B.sr.conn (fun x => x) (fun e he => by obtain ⟨i, hi, _⟩ := row_edge.1 he; omega) i (by omega) (by omega)
   rw [decide_eq_true_iff]
   exact this.symm
  rw [this, List.length_range]
  omega
 | succ n ih =>
  intro hn out P W B
  obtain ⟨out1, P1, W1, B1⟩ := both_of (row_rec (n := n) s1 s2 m1 m2 hh (by omega) hv) (row_asc val h0 n)
  have := ih (by omega) B1
  rcases one_more s1 m1 B1.sr B.sr with ⟨_, e⟩ | ⟨_, e⟩ <;> omega
end
section
variable {p0 p1 p2 : Int} {p3 : List Int} {s m : Nat}
def wA (p3 : List Int) (x : Nat) : Int := if p3.length = 0 then 0 else p3.getD (x % p3.length) 0
def wB (p3 : List Int) (x : Nat) : Int := if p3.length = 0 then 0 else -(3 * p3.getD ((x + 7) % p3.length) 0)
def val (p3 : List Int) (s m h : Nat) : Int := wA p3 (h % s) + wB p3 (h % m)
theorem byte_at (b3 : ∀ x ∈ p3, B8 x) (k : Nat) : 0 ≤ p3.getD k 0 ∧ p3.getD k 0 ≤ 255 := by
 by_cases c : k < p3.length
 · rw [List.getD_eq_getElem?_getD, List.getElem?_eq_getElem c]
   exact b3 _ (List.getElem_mem _)
 rw [List.getD_eq_getElem?_getD, List.getElem?_eq_none (by omega)]
 exact ⟨by decide, by decide⟩
theorem wA_in (b3 : ∀ x ∈ p3, B8 x) (x : Nat) : 0 ≤ wA p3 x ∧ wA p3 x ≤ 255 := by
 unfold wA
 split
 · omega
 exact byte_at b3 _
theorem wB_in (b3 : ∀ x ∈ p3, B8 x) (x : Nat) : -765 ≤ wB p3 x ∧ wB p3 x ≤ 0 := by
 unfold wB
 split
 · omega
 have := byte_at b3 ((x + 7) % p3.length); omega
theorem val_in (b3 : ∀ x ∈ p3, B8 x) (h : Nat) : -2000 ≤ val p3 s m h ∧ val p3 s m h ≤ 2000 := by
 have := wA_in b3 (h % s)
 have := wB_in b3 (h % m)
 unfold val
 omega
theorem tmod_nat (a b : Nat) : Int.tmod (a : Int) (b : Int) = ((a % b : Nat) : Int) := rfl
theorem F44_eq (b3 : ∀ x ∈ p3, B8 x) (hl : p3.length < 9223372036854775808) (s1 : 1 ≤ s) (s2 : s ≤ 12) (m1 : 1 ≤ m) (m2 : m ≤ 12) (h : Nat) : F44 (h : Int) p3 (s : Int) (m : Int) = some (val p3 s m h) := by
 unfold F44
 by_cases c : p3.length = 0
 · rw [if_pos (by simp [c])]
   unfold val wA wB
   rw [if_pos c, if_pos c]
   rfl
 have l1 := Nat.mod_lt h (show 0 < s by omega)
 have l2 := Nat.mod_lt h (show 0 < m by omega)
 have k1 := Nat.mod_lt (h % s) (show 0 < p3.length by omega)
 have k2 := Nat.mod_lt (h % m + 7) (show 0 < p3.length by omega)
 have w7 : w64 (((h % m : Nat) : Int) + 7) = ((h % m + 7 : Nat) : Int) := by rw [w64_in (by omega) (by omega)]; omega
 rw [if_neg (by simpa using c), if_neg (by omega), if_neg (by omega), tmod_nat, tmod_nat, if_pos ⟨by omega, by omega⟩]
 simp only [Option.bind_eq_bind, Option.bind_some]
 rw [if_neg (by omega), tmod_nat, w7, tmod_nat, if_pos ⟨by omega, by omega⟩]
 rw [show ((h % s % p3.length : Nat) : Int).toNat = h % s % p3.length from rfl, show (((h % m + 7) % p3.length : Nat) : Int).toNat = (h % m + 7) % p3.length from rfl]
 have q1 := byte_at b3 (h % s % p3.length)
 have q2 := byte_at b3 ((h % m + 7) % p3.length)
 unfold val wA wB
 rw [if_neg c, if_neg c, w64_in (x := p3.getD (h % s % p3.length) 0) (by omega) (by omega), w64_in (x := p3.getD ((h % m + 7) % p3.length) 0) (by omega) (by omega), w64_in (x := 3 * p3.getD ((h % m + 7) % p3.length) 0) (by omega) (by omega), w64_in (by omega) (by omega)]
 rfl
theorem gcd_loop : ∀ (d b a : Nat), b ≤ d → F30l0 p0 p1 (a : Int) (b : Int) = some ((Nat.gcd a b : Nat) : Int) := by
 intro d
 induction d with
 | zero =>
  intro b a h
  have : b = 0 := by omega
  subst this
  rw [F30l0, if_neg (by simp), Nat.gcd_zero_right]
 | succ d ih =>
  intro b a h
  by_cases c : b = 0
  · subst c
    rw [F30l0, if_neg (by simp), Nat.gcd_zero_right]
  have l := Nat.mod_lt a (show 0 < b by omega)
  rw [F30l0, if_pos (by simp; omega), if_neg (by omega), tmod_nat, ih _ _ (by omega), Nat.gcd_comm a b, Nat.gcd_rec b a, Nat.gcd_comm]
theorem row_loop (b3 : ∀ x ∈ p3, B8 x) (hl : p3.length < 9223372036854775808) (s1 : 1 ≤ s) (s2 : s ≤ 12) (m1 : 1 ≤ m) (m2 : m ≤ 12) (hS : w64 (1 + Int.tmod (w64 p0) 12) = s) (hM : w64 (1 + Int.tmod (w64 p1) 12) = m) {r1 : Int × Int} {r6 r8 : Int × Int × List (Int × Int)} {h0 n : Nat}
 (he : w64 (w64 p2 + r1.1) = ((h0 + n : Nat) : Int)) (hh : h0 ≤ 255) (hn : n ≤ 24) : ∀ (d k : Nat), k + d = n → F13l0 p0 p1 p2 p3 r1 r6 r8 ((h0 + k : Nat) : Int) (row (val p3 s m) h0 k) = some (row (val p3 s m) h0 n) := by
 intro d
 induction d with
 | zero =>
  intro k hk
  have : k = n := by omega
  subst this
  rw [F13l0, he, if_neg (by simp)]
 | succ d ih =>
  intro k hk
  have w1 : w64 (((h0 + k : Nat) : Int) + 1) = ((h0 + (k + 1) : Nat) : Int) := by rw [w64_in (by omega) (by omega)]; omega
  rw [F13l0, he, if_pos (by simp; omega), hS, hM, F44_eq b3 hl s1 s2 m1 m2, w1]
  simp only [Option.bind_eq_bind, Option.bind_some]
  rw [if_pos (by rw [row_len]; omega), ← row_succ, ih (k + 1) (by omega)]
variable {S M : Int} {rd : List (Int × Int)} {out : Out} {P W : List Int}
def fol (s m : Nat) (out : Out) (h : Nat) : Bool := decide (partOf (s : Int) out ((h % s : Nat) : Int) = partOf (s : Int) out ((s : Int) + ((h % m : Nat) : Int)))
def folV (s m : Nat) (out : Out) (h : Nat) : Int × Int := ((h : Int), waveOf (s : Int) out ((h % s : Nat) : Int) + waveOf (s : Int) out ((s : Int) + ((h % m : Nat) : Int)))
theorem follow_loop (B : Both (s : Int) (m : Int) rd out P W) : ∀ (d k : Nat) (acc : List (Int × Int)), k + d = 151 → acc.length ≤ k → F42l0 (s : Int) (m : Int) rd 150 out acc (k : Int) = some (acc ++ ((List.range' k d).filter (fol s m out)).map (folV s m out)) := by
 intro d
 induction d with
 | zero => intro k acc hk ha; rw [F42l0, if_neg (by simp; omega)]; simp
 | succ d ih =>
  intro k acc hk ha
  have w1 : w64 ((k : Int) + 1) = ((k + 1 : Nat) : Int) := by rw [w64_in (by omega) (by omega)]; omega
  rw [F42l0, if_pos (by simp; omega), B.F59_eq (by omega), w1, List.range'_succ]
  simp only [Option.bind_eq_bind, Option.bind_some, tmod_nat]
  by_cases c : fol s m out k = true
  · rw [List.filter_cons_of_pos c]
    unfold fol at c
    rw [if_pos c, if_pos (by omega)]
    simp only [Option.bind_some]
    rw [ih (k + 1) _ (by omega) (by simp; omega)]
    simp [folV]
  rw [List.filter_cons_of_neg c]
  unfold fol at c
  rw [if_neg c]
  simp only [Option.bind_some]
  rw [ih (k + 1) _ (by omega) (by omega)]
theorem follow_eq (B : Both (s : Int) (m : Int) rd out P W) (g : plain.Good (edges (s : Int) (m : Int) rd) (waveOf (s : Int) out)) : F42 (s : Int) (m : Int) rd 0 150 = some (((List.range' 0 151).filter (fol s m out)).map (folV s m out), 0) := by
 obtain ⟨k, f, q⟩ := B.fits
 have hk : k = -1 := by
  rcases q with ⟨a, _⟩ | ⟨_, _, a, _⟩
  · exact a
  exact absurd g a
 unfold F42
 rw [B.co]
 simp only [Option.bind_eq_bind, Option.bind_some, bne_self_eq_false, Bool.false_eq_true, if_false]
 rw [B.fo]
 simp only [Option.bind_some]
 rw [f, hk]
 simp only [Option.bind_some]
 rw [if_neg (by decide), F51_eq, decide_eq_true (by decide)]
 simp only [Option.bind_some, if_true]
 rw [if_neg (by decide)]
 have e : decide (w64 (150 - 0) > 1000) = false := by decide
 rw [e]
 simp only [Option.bind_some, Bool.false_eq_true, if_false]
 have := follow_loop B 151 0 [] (by omega) (by simp)
 rw [show ((0 : Nat) : Int) = 0 from rfl] at this
 rw [this]
 rfl
theorem value_true {n S : Int} {E : Edges} {p w : Int → Int} (so : Sol n S E p w) {u : Int → Int} (hu : ∀ e ∈ E, u e.1 + u e.2.1 = e.2.2) {a b : Int} (ha : 0 ≤ a ∧ a < S) (hb : S ≤ b ∧ b < n) (hp : p a = p b) : w a + w b = u a + u b := by
 have x := so.det u hu a ha.1 (by omega)
 have y := so.det u hu b (by omega) hb.2
 have s1 : sg S a = 1 := if_pos ha.2
 have s2 : sg S b = -1 := if_neg (by omega)
 rw [s1, hp] at x
 rw [s2] at y
 have : (1 : Int) * sg S (p b) * u (p b) + -1 * sg S (p b) * u (p b) = 0 := by
  rw [Int.one_mul, Int.neg_mul, Int.neg_mul, Int.one_mul]; omega
 omega
theorem all_loop (b3 : ∀ x ∈ p3, B8 x) (hl : p3.length < 9223372036854775808) (s1 : 1 ≤ s) (s2 : s ≤ 12) (m1 : 1 ≤ m) (m2 : m ≤ 12) (hS : w64 (1 + Int.tmod (w64 p0) 12) = s) (hM : w64 (1 + Int.tmod (w64 p1) 12) = m) {r35 : List (Int × Int) × Int} (hr : r35.1 = row (val p3 s m) 0 151) :
 ∀ (d k : Nat), k + d = 151 → F13l1 p0 p1 p3 r35 (k : Int) = some (.inr ()) := by
 have hlen : r35.1.length = 151 := by rw [hr, row_len]
 intro d
 induction d with
 | zero => intro k hk; rw [F13l1, if_neg (by simp; omega)]
 | succ d ih =>
  intro k hk
  have w1 : w64 ((k : Int) + 1) = ((k + 1 : Nat) : Int) := by rw [w64_in (by omega) (by omega)]; omega
  have at_ : r35.1.getD (k : Int).toNat (0, 0) = ((k : Int), val p3 s m k) := by
   rw [hr, List.getD_eq_getElem?_getD, show (k : Int).toNat = k from rfl, row_at (by omega), Nat.zero_add]; rfl
  rw [F13l1, if_pos (by simp; omega), if_pos ⟨by omega, by omega⟩, at_, hS, hM, w1]
  simp only [Option.bind_eq_bind, Option.bind_some, bne_self_eq_false, Bool.false_eq_true, if_false]
  rw [F44_eq b3 hl s1 s2 m1 m2]
  simp only [Option.bind_some, bne_self_eq_false, Bool.false_eq_true, if_false]
  exact ih (k + 1) (by omega)
end
theorem plain (p0 : Int) (p1 : Int) (p2 : Int) (p3 : List Int) (wp0 : (Lit.int .u8 p0).wf = true) (wp1 : (Lit.int .u8 p1).wf = true) (wp2 : (Lit.int .u8 p2).wf = true) (wp3 : ∀ x ∈ p3, (Lit.int .u8 x).wf = true)
 (q3 : p3.length < 9223372036854775808) : F13 p0 p1 p2 p3 = some true := by
 have b3 : ∀ x ∈ p3, B8 x := fun x hx => b8_of (wp3 x hx)
 obtain ⟨x0, x1⟩ := b8_of wp0
 obtain ⟨y0, y1⟩ := b8_of wp1
 obtain ⟨h0, h1⟩ := b8_of wp2
 obtain ⟨s, s1, s2, hS⟩ : ∃ s : Nat, 1 ≤ s ∧ s ≤ 12 ∧ w64 (1 + Int.tmod (w64 p0) 12) = (s : Int) := by
  have t := tmod_in (S := 12) x0 (by omega)
  exact ⟨(1 + Int.tmod p0 12).toNat, by omega, by omega, by rw [w64_in (x := p0) (by omega) (by omega), w64_in (by omega) (by omega)]; omega⟩
 obtain ⟨m, m1, m2, hM⟩ : ∃ m : Nat, 1 ≤ m ∧ m ≤ 12 ∧ w64 (1 + Int.tmod (w64 p1) 12) = (m : Int) := by
  have t := tmod_in (S := 12) y0 (by omega)
  exact ⟨(1 + Int.tmod p1 12).toNat, by omega, by omega, by rw [w64_in (x := p1) (by omega) (by omega), w64_in (by omega) (by omega)]; omega⟩
 obtain ⟨q, hq, hq2⟩ : ∃ q : Nat, p2 = (q : Int) ∧ q ≤ 255 := ⟨p2.toNat, by omega, by omega⟩
 subst hq
 have g1 : Nat.gcd s m ≤ s := Nat.le_of_dvd (by omega) (Nat.gcd_dvd_left _ _)
 have g2 : Nat.gcd s m ≤ m := Nat.le_of_dvd (by omega) (Nat.gcd_dvd_right _ _)
 have g0 : 0 < Nat.gcd s m := Nat.gcd_pos_of_pos_left _ (by omega)
 obtain ⟨n, hn⟩ : ∃ n : Nat, s + m = (n + 1) + Nat.gcd s m := ⟨s + m - Nat.gcd s m - 1, by omega⟩
 have w1 : w64 ((s : Int) + m) = (s : Int) + m := w64_in (by omega) (by omega)
 have w2 : w64 ((s : Int) + m - ((Nat.gcd s m : Nat) : Int)) = ((n + 1 : Nat) : Int) := by rw [w64_in (by omega) (by omega)]; omega
 have f30 : F30 (s : Int) (m : Int) = some (((n + 1 : Nat) : Int), 0) := by
  unfold F30
  rw [F51_eq, F51_eq, decide_eq_true (by omega), decide_eq_true (by omega)]
  simp only [Option.bind_eq_bind, Option.bind_some, if_true, Bool.false_eq_true, if_false]
  rw [gcd_loop m m s (Nat.le_refl _)]
  simp only [Option.bind_some]
  rw [w1, w2]
 have f40 : F40 (s : Int) (m : Int) [] = some ((s : Int), (m : Int), []) := by
  unfold F40
  rw [F40l0, if_neg (by decide)]
  rfl
 have hv := val_in (s := s) (m := m) b3
 have hl := row_loop (p0 := p0) (p1 := p1) (p2 := (q : Int)) (r1 := (((n + 1 : Nat) : Int), 0)) (r6 := ((s : Int), (m : Int), [])) (r8 := ((s : Int), (m : Int), [])) (h0 := q) (n := n + 1) b3 q3 s1 s2 m1 m2 hS hM (by rw [w64_in (x := (q : Int)) (by omega) (by omega), w64_in (by omega) (by omega)]; omega) hq2 (by omega) (n + 1) 0 (by omega)
 rw [show row (val p3 s m) q 0 = [] from rfl, Nat.add_zero q] at hl
 have hA := row_rec (h0 := q) (n := n + 1) s1 s2 m1 m2 hq2 (by omega) hv
 have hB := row_rec (h0 := q) (n := n) s1 s2 m1 m2 hq2 (by omega) hv
 obtain ⟨outA, PA, WA, BA⟩ := both_of hA (row_asc _ _ _)
 obtain ⟨outB, PB, WB, BB⟩ := both_of hB (row_asc _ _ _)
 have cA := firsts_res s1 m1 (by omega) BA.sr
 have cB := parts_low s1 s2 m1 m2 hq2 hv n (by omega) BB
 have hne : at0 PB (((q + n) % s : Nat) : Int) ≠ at0 PB ((s : Int) + (((q + n) % m : Nat) : Int)) ∧ firsts ((s : Int) + m).toNat PB = Nat.gcd s m + 1 := by
  rcases one_more s1 m1 BB.sr BA.sr with ⟨_, e⟩ | ⟨a, e⟩
  · omega
  exact ⟨a, by omega⟩
 have good : ∀ k, plain.Good (edges (s : Int) (m : Int) (row (val p3 s m) q k)) (fun i => if i < s then wA p3 i.toNat else wB p3 (i - s).toNat) := fun k e he => by
  obtain ⟨i, hi, rfl⟩ := row_edge.1 he
  have l1 := Nat.mod_lt (q + i) (show 0 < s by omega)
  dsimp only
  rw [if_pos (by omega), if_neg (by omega), show ((((q + i) % s : Nat) : Int)).toNat = (q + i) % s from rfl, show ((s : Int) + (((q + i) % m : Nat) : Int) - s).toNat = (q + i) % m by omega]
  rfl
 have gA := BA.so.good (edges_ends hA) (good _)
 have gB := BB.so.good (edges_ends hB) (good _)
 have fA := follow_eq BA gA
 have fB := follow_eq BB gB
 have l1 : ∀ h, h % s < s := fun h => Nat.mod_lt h (by omega)
 have l2 : ∀ h, h % m < m := fun h => Nat.mod_lt h (by omega)
 have allF : ∀ h, fol s m outA h = true := fun h => by
  unfold fol
  have a := l1 h
  have b := l2 h
  rw [decide_eq_true_iff, parts_res s1 m1 (by omega) BA.so (by omega) (by omega), parts_res s1 m1 (by omega) BA.so (by omega) (by omega)]
  unfold gres
  rw [if_pos (by omega), if_neg (by omega), show ((((h % s : Nat) : Int)).toNat) = h % s from rfl, show ((s : Int) + ((h % m : Nat) : Int) - s).toNat = h % m by omega, Nat.mod_mod_of_dvd _ (Nat.gcd_dvd_left _ _), Nat.mod_mod_of_dvd _ (Nat.gcd_dvd_right _ _)]
 have allV : ∀ h, folV s m outA h = ((h : Int), val p3 s m h) := fun h => by
  have a := l1 h
  have b := l2 h
  have c := allF h
  unfold fol at c
  have e := value_true (u := fun i => if i < s then wA p3 i.toNat else wB p3 (i - s).toNat) BA.so (good _) (a := ((h % s : Nat) : Int)) (b := (s : Int) + ((h % m : Nat) : Int)) ⟨by omega, by omega⟩ ⟨by omega, by omega⟩ (of_decide_eq_true c)
  rw [if_pos (by omega), if_neg (by omega), show ((((h % s : Nat) : Int)).toNat) = h % s from rfl, show ((s : Int) + ((h % m : Nat) : Int) - s).toNat = h % m by omega] at e
  unfold folV
  rw [e]
  rfl
 have eA : ((List.range' 0 151).filter (fol s m outA)).map (folV s m outA) = row (val p3 s m) 0 151 := by
  rw [List.filter_eq_self.2 fun h _ => allF h]
  unfold row
  exact List.map_congr_left fun h _ => allV h
 rw [eA] at fA
 have hall := all_loop (p0 := p0) (p1 := p1) (r35 := (row (val p3 s m) 0 151, 0)) b3 q3 s1 s2 m1 m2 hS hM rfl 151 0 (by omega)
 have hless : (((List.range' 0 151).filter (fol s m outB)).map (folV s m outB)).length ≤ 150 := by
  rw [List.length_map]
  have hm : s * m ≤ 144 := Nat.mul_le_mul s2 m2
  have hp : 0 < s * m := Nat.mul_pos (by omega) (by omega)
  have hlt := Nat.mod_lt (q + n) hp
  have hbad : fol s m outB ((q + n) % (s * m)) = false := by
   unfold fol
   rw [Nat.mod_mod_of_dvd _ (Nat.dvd_mul_right s m), Nat.mod_mod_of_dvd _ (Nat.dvd_mul_left m s)]
   have a := l1 (q + n)
   have b := l2 (q + n)
   refine decide_eq_false ?_
   rw [BB.so.part_eq BB.sr (by omega) (by omega), BB.so.part_eq BB.sr (by omega) (by omega)]
   exact hne.1
  have : ((List.range' 0 151).filter (fol s m outB)).length < (List.range' 0 151).length := by
   refine Nat.lt_of_le_of_ne (List.length_filter_le _ _) fun e => ?_
   have := (List.length_filter_eq_length_iff.1 e) ((q + n) % (s * m)) (by rw [List.mem_range'_1]; omega)
   rw [hbad] at this
   cases this
  rw [List.length_range'] at this
  omega
 have pA := BA.parts
 have pB := BB.parts
 rw [cA] at pA
 rw [hne.2] at pB
 have htk : List.take ((n : Nat) : Int).toNat (row (val p3 s m) q (n + 1)) = row (val p3 s m) q n := by
  rw [row_succ]
  exact List.take_left' (row_len _ _ _)
 have wn : w64 (((n + 1 : Nat) : Int) - 1) = ((n : Nat) : Int) := by rw [w64_in (by omega) (by omega)]; omega
 have wq : w64 (q : Int) = (q : Int) := w64_in (by omega) (by omega)
 unfold F13
 rw [hS, hM, f30]
 simp only [Option.bind_eq_bind, Option.bind_some, bne_self_eq_false, Bool.false_eq_true, if_false]
 rw [if_neg (by simp; omega)]
 have e24 : decide (((n + 1 : Nat) : Int) > 24) = false := decide_eq_false (by omega)
 rw [e24]
 simp only [Option.bind_some, Bool.false_eq_true, if_false]
 rw [f40]
 simp only [Option.bind_some]
 rw [wq, hl]
 simp only [Option.bind_some]
 rw [if_neg (by rw [row_len]; omega), wn, if_pos ⟨by omega, by rw [row_len]; omega⟩, htk, fA]
 simp only [Option.bind_some]
 rw [fB]
 simp only [Option.bind_some]
 rw [pA]
 simp only [Option.bind_some]
 rw [pB]
 simp only [Option.bind_some, bne_self_eq_false, Bool.false_eq_true, if_false]
 have hrl : (((row (val p3 s m) 0 151).length : Nat) : Int) = 151 := by rw [row_len]; rfl
 rw [hrl]
 simp only [bne_self_eq_false, Bool.false_eq_true, if_false]
 rw [if_neg (by rw [decide_eq_true_iff]; omega), w1, w64_in (x := ((Nat.gcd s m : Nat) : Int) + 1) (by omega) (by omega)]
 have e3 : ((((Nat.gcd s m + 1 : Nat) : Int)) != ((Nat.gcd s m : Nat) : Int) + 1) = false := by simp
 have e4 : (((Nat.gcd s m : Nat) : Int) != w64 ((s : Int) + m - ((n + 1 : Nat) : Int))) = false := by
  rw [w64_in (by omega) (by omega), bne_eq_false_iff_eq]
  omega
 rw [e3, e4]
 simp only [Option.bind_some, Bool.false_eq_true, if_false]
 rw [show ((0 : Nat) : Int) = 0 from rfl] at hall
 rw [hall]
 rfl
end Go.Proofs.Ytdekbjfjbbdjgaa.waveEnough
