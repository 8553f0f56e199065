/- Sorting: the functions of the sort are those of the library's plain layer. -/
import Derived.Test.YthpfffijnkmdgaaXS
import Derived.Sort.AssemblyPlain
set_option linter.unusedVariables false
set_option linter.unusedSimpArgs false
set_option linter.unusedSectionVars false
set_option maxRecDepth 100000
set_option maxHeartbeats 1000000
namespace Go.Proofs.Ythpfffijnkmdgaa.plain
open Go Go.Cl
abbrev El := Int × Int
def cm (x y : El) : Option Int := F87 x.1 x.2 y.1 y.2
theorem wn {x : Int} {n : Nat} (h : x = n := by omega) (hn : n < 4611686018427387904 := by omega) : w64 x = n := by
 rw [h]
 exact w64_in (by omega) (by omega)
section
variable {α : Type} [Inhabited α] {f : α → El} {cv : α → α → Int}
def T (f : α → El) (d : Array α) : List El := d.toList.map f
theorem T_len (d : Array α) : (T f d).length = d.size := by simp [T]
theorem T_get {d : Array α} {i : Nat} (h : i < d.size) : (T f d).getD i (0, 0) = f d[i]! := by
 simp [T, List.getD, h, getElem!_pos d i h]
theorem wr {d : Array α} {i j : Nat} {x y : Int} (hx : x = i) (hy : y = j) (hi : i < d.size) (hj : j < d.size) : List.set (List.set (T f d) (Int.toNat x) ((f d[j]!).1, (f d[j]!).2)) (Int.toNat y) ((f d[i]!).1, (f d[i]!).2) = T f (Sort.swp d i j) := by
 subst hx hy
 show List.set (List.set (T f d) i (f d[j]!)) j (f d[i]!) = _
 unfold T Sort.swp
 rw [Array.toList_setIfInBounds, Array.toList_setIfInBounds, List.map_set, List.map_set]
theorem rd {β : Type} {d : Array α} {l : List El} {i : Nat} {x : Int} {K : El → Option β} (hl : l.length = d.size) (hx : x = i) (hi : i < d.size) :
 (if (0 : Int) ≤ x ∧ x < (l.length : Int) then some (List.getD (T f d) (Int.toNat x) (0, 0)) >>= K else none) = K (f d[i]!) := by
 subst hx
 rw [hl, if_pos ⟨by omega, by omega⟩, Int.toNat_natCast, T_get hi]
 rfl
theorem rd0 {β : Type} {d : Array α} {i : Nat} {x : Int} {K : El → Option β} (hx : x = i) (hi : i < d.size) :
 (some (List.getD (T f d) (Int.toNat x) (0, 0)) >>= K) = K (f d[i]!) := by
 subst hx
 rw [Int.toNat_natCast, T_get hi]
 rfl
theorem cp {β : Type} {K : Int → Option β} (hc : ∀ a b, cm (f a) (f b) = some (cv a b)) (a b : α) : (F87 (f a).1 (f a).2 (f b).1 (f b).2 >>= K) = K (cv a b) := by
 rw [show F87 (f a).1 (f a).2 (f b).1 (f b).2 = some (cv a b) from hc a b]
 rfl
theorem bdb {γ : Type} {x : Bool} {K : Bool → Option γ} : (some x >>= K) = K x := rfl
theorem bdi {γ : Type} {x : Int} {K : Int → Option γ} : (some x >>= K) = K x := rfl
theorem bd {β γ : Type} {x : β} {K : β → Option γ} : (some x >>= K) = K x := rfl
theorem sz (d : Array α) (i j : Nat) : (Sort.swp d i j).size = d.size := Sort.size_swp d i j
end
section
variable {α : Type} [Inhabited α] {f : α → El} {cv : α → α → Int} (hc : ∀ a b, cm (f a) (f b) = some (cv a b))
include hc
theorem e110l1 (p2 v : Int) (a : Nat) : ∀ (j : Nat) (d : Array α), j < d.size → d.size < 1000 → F110l1 a p2 v j (T f d) = some (T f (Sort.insInner (fun x y => decide (cv x y < 0)) a j d))
 | 0, d, hj, hs => by
  rw [F110l1, Sort.insInner]
  have : ¬ (((0 : Nat) : Int) > (a : Int)) := by omega
  simp only [this, decide_false, Bool.false_eq_true, if_false, bdb, bdi]
 | j + 1, d, hj, hs => by
  rw [F110l1, Sort.insInner]
  have w1 : w64 (((j + 1 : Nat) : Int) - 1) = (j : Int) := wn
  by_cases h : j + 1 > a
  · have c1 : ((j + 1 : Nat) : Int) > (a : Int) := by omega
    simp only [c1, decide_true, if_true, w1]
    rw [rd (T_len d) rfl hj, rd (T_len d) rfl (by omega : j < d.size), cp hc, bdb]
    by_cases g : cv d[j + 1]! d[j]! < 0
    · simp only [g, decide_true, if_true, h, Bool.and_self]
      rw [rd (T_len d) rfl (by omega : j < d.size), rd (T_len d) rfl hj, wr rfl rfl hj (by omega)]
      exact e110l1 p2 v a j _ (by rw [sz]; omega) (by rw [sz]; exact hs)
    simp only [g, decide_false, Bool.false_eq_true, if_false, Bool.and_false]
  have c1 : ¬ ((j + 1 : Nat) : Int) > (a : Int) := by omega
  simp only [c1, decide_false, Bool.false_eq_true, if_false, bdb, bdi, h, Bool.false_and]
omit hc in
theorem insInner_size (lt : α → α → Bool) (a : Nat) : ∀ (j : Nat) (d : Array α), (Sort.insInner lt a j d).size = d.size
 | 0, d => rfl
 | j + 1, d => by
  rw [Sort.insInner]
  split
  · rw [insInner_size lt a j, sz]
  rfl
theorem e110l0 (a b : Nat) : ∀ (n i : Nat) (d : Array α), b - i = n → b ≤ d.size → d.size < 1000 → F110l0 a b i (T f d) = some (T f (Sort.insOuter (fun x y => decide (cv x y < 0)) a b i d))
 | 0, i, d, hn, hb, hs => by
  rw [F110l0, Sort.insOuter]
  have c1 : ¬ ((i : Int) < (b : Int)) := by omega
  have c2 : ¬ (i < b) := by omega
  simp only [c1, c2, decide_false, Bool.false_eq_true, if_false]
 | n + 1, i, d, hn, hb, hs => by
  rw [F110l0, Sort.insOuter]
  have c1 : ((i : Int) < (b : Int)) := by omega
  have c2 : (i < b) := by omega
  simp only [c1, c2, decide_true, if_true]
  rw [e110l1 hc b i a i d (by omega) hs, bd, wn (n := i + 1)]
  exact e110l0 a b n (i + 1) _ (by omega) (by rw [insInner_size]; exact hb) (by rw [insInner_size]; exact hs)
theorem e110 (a b : Nat) (d : Array α) (ha : a ≤ d.size) (hb : b ≤ d.size) (hs : d.size < 1000) : F110 (T f d) a b = some (T f (Sort.insertionSort (fun x y => decide (cv x y < 0)) d a b)) := by
 unfold F110 Sort.insertionSort
 rw [wn (n := a + 1), e110l0 hc a b _ (a + 1) d rfl hb hs]
 rfl
theorem e123l0 (hi F : Nat) : ∀ (n root : Nat) (d : Array α), hi - root ≤ n → F + hi ≤ d.size → d.size < 1000 → root ≤ 1000 → (F123l0 hi F root (T f d) = some (.inl (T f (Sort.siftDown (fun x y => decide (cv x y < 0)) hi F root d))) ∨ F123l0 hi F root (T f d) = some (.inr (T f (Sort.siftDown (fun x y => decide (cv x y < 0)) hi F root d)))) ∧ (Sort.siftDown (fun x y => decide (cv x y < 0)) hi F root d).size = d.size
 | 0, root, d, hn, hb, hs, hr => by
  rw [F123l0, Sort.siftDown]
  have w1 : w64 (2 * (root : Int)) = ((2 * root : Nat) : Int) := wn
  have w2 : w64 (((2 * root : Nat) : Int) + 1) = ((2 * root + 1 : Nat) : Int) := wn
  have c1 : ((2 * root + 1 : Nat) : Int) ≥ (hi : Int) := by omega
  have c2 : 2 * root + 1 ≥ hi := by omega
  simp only [w1, w2, c1, c2, decide_true, if_true, dif_pos]
  exact ⟨.inl trivial, trivial⟩
 | n + 1, root, d, hn, hb, hs, hr => by
  rw [F123l0, Sort.siftDown]
  have w1 : w64 (2 * (root : Int)) = ((2 * root : Nat) : Int) := wn
  have w2 : w64 (((2 * root : Nat) : Int) + 1) = ((2 * root + 1 : Nat) : Int) := wn
  have w3 : w64 (((2 * root + 1 : Nat) : Int) + 1) = ((2 * root + 2 : Nat) : Int) := wn
  simp only [w1, w2, w3]
  by_cases h : 2 * root + 1 ≥ hi
  · have c1 : ((2 * root + 1 : Nat) : Int) ≥ (hi : Int) := by omega
    simp only [c1, h, decide_true, if_true, dif_pos]
    exact ⟨.inl trivial, trivial⟩
  have c1 : ¬ ((2 * root + 1 : Nat) : Int) ≥ (hi : Int) := by omega
  have w4 : w64 ((F : Int) + ((2 * root + 1 : Nat) : Int)) = ((F + (2 * root + 1) : Nat) : Int) := wn
  have w5 : w64 (((F + (2 * root + 1) : Nat) : Int) + 1) = ((F + (2 * root + 1) + 1 : Nat) : Int) := wn
  have w6 : w64 ((F : Int) + (root : Int)) = ((F + root : Nat) : Int) := wn
  have w7 : w64 ((F : Int) + ((2 * root + 2 : Nat) : Int)) = ((F + (2 * root + 2) : Nat) : Int) := wn
  simp only [c1, h, decide_false, Bool.false_eq_true, if_false, dif_neg, not_false_eq_true, w4, w5, w6]
  by_cases h2 : 2 * root + 1 + 1 < hi
  · have c2 : ((2 * root + 2 : Nat) : Int) < (hi : Int) := by omega
    have h2' : 2 * root + 2 < hi := by omega
    simp only [c2, h2, h2', decide_true, if_true, dif_pos, Bool.true_and]
    rw [rd (T_len d) rfl (by omega : F + (2 * root + 1) < d.size), rd (T_len d) rfl (by omega : F + (2 * root + 1) + 1 < d.size), cp hc, bdb]
    by_cases g : cv d[F + (2 * root + 1)]! d[F + (2 * root + 1) + 1]! < 0
    · simp only [g, decide_true, if_true, bdb, bdi, w7]
      rw [rd (T_len d) rfl (by omega : F + root < d.size), rd (T_len d) rfl (by omega : F + (2 * root + 2) < d.size), cp hc]
      by_cases g2 : cv d[F + root]! d[F + (2 * root + 2)]! < 0
      · simp only [g2, decide_true, Bool.not_true, Bool.false_eq_true, if_false]
        rw [wr rfl rfl (by omega) (by omega)]
        have := e123l0 hi F n (2 * root + 2) (Sort.swp d (F + root) (F + (2 * root + 2))) (by omega) (by rw [sz]; exact hb) (by rw [sz]; exact hs) (by omega)
        rw [sz] at this
        exact this
      simp only [g2, decide_false, Bool.not_false, if_true]
      exact ⟨.inr trivial, trivial⟩
    simp only [g, decide_false, Bool.false_eq_true, if_false, bdb, bdi, w4]
    rw [rd (T_len d) rfl (by omega : F + root < d.size), rd (T_len d) rfl (by omega : F + (2 * root + 1) < d.size), cp hc]
    by_cases g2 : cv d[F + root]! d[F + (2 * root + 1)]! < 0
    · simp only [g2, decide_true, Bool.not_true, Bool.false_eq_true, if_false]
      rw [wr rfl rfl (by omega) (by omega)]
      have := e123l0 hi F n (2 * root + 1) (Sort.swp d (F + root) (F + (2 * root + 1))) (by omega) (by rw [sz]; exact hb) (by rw [sz]; exact hs) (by omega)
      rw [sz] at this
      exact this
    simp only [g2, decide_false, Bool.not_false, if_true]
    exact ⟨.inr trivial, trivial⟩
  have c2 : ¬ ((2 * root + 2 : Nat) : Int) < (hi : Int) := by omega
  simp only [c2, h2, decide_false, Bool.false_eq_true, if_false, bdb, bdi, Bool.false_and, w4]
  rw [rd (T_len d) rfl (by omega : F + root < d.size), rd (T_len d) rfl (by omega : F + (2 * root + 1) < d.size), cp hc]
  by_cases g2 : cv d[F + root]! d[F + (2 * root + 1)]! < 0
  · simp only [g2, decide_true, Bool.not_true, Bool.false_eq_true, if_false]
    rw [wr rfl rfl (by omega) (by omega)]
    have := e123l0 hi F n (2 * root + 1) (Sort.swp d (F + root) (F + (2 * root + 1))) (by omega) (by rw [sz]; exact hb) (by rw [sz]; exact hs) (by omega)
    rw [sz] at this
    exact this
  simp only [g2, decide_false, Bool.not_false, if_true]
  exact ⟨.inr trivial, trivial⟩
theorem e123 (lo hi F : Nat) (d : Array α) (hb : F + hi ≤ d.size) (hs : d.size < 1000) (hr : lo ≤ 1000) : F123 (T f d) lo hi F = some (T f (Sort.siftDown (fun x y => decide (cv x y < 0)) hi F lo d)) ∧ (Sort.siftDown (fun x y => decide (cv x y < 0)) hi F lo d).size = d.size := by
 obtain ⟨h, g⟩ := e123l0 hc hi F _ lo d (Nat.le_refl _) hb hs hr
 refine ⟨?_, g⟩
 unfold F123
 rcases h with h | h
 · rw [h]; rfl
 rw [h]; rfl
theorem e111l0 (a b : Nat) (hab : a ≤ b) : ∀ (k : Nat) (d : Array α), k ≤ 1000 → b ≤ d.size → d.size < 1000 → F111l0 a b ((k : Int) - 1) (T f d) = some (T f (Sort.heapBuild (fun x y => decide (cv x y < 0)) (b - a) a k d)) ∧ (Sort.heapBuild (fun x y => decide (cv x y < 0)) (b - a) a k d).size = d.size
 | 0, d, hk, hb, hs => by
  rw [F111l0, Sort.heapBuild]
  have c1 : ¬ (((0 : Nat) : Int) - 1 ≥ 0) := by omega
  simp only [c1, decide_false, Bool.false_eq_true, if_false]
  exact ⟨trivial, trivial⟩
 | k + 1, d, hk, hb, hs => by
  rw [F111l0, Sort.heapBuild]
  have e1 : ((k + 1 : Nat) : Int) - 1 = (k : Int) := by omega
  have c1 : (k : Int) ≥ 0 := by omega
  have w1 : w64 ((b : Int) - (a : Int)) = ((b - a : Nat) : Int) := wn
  have w2 : w64 ((k : Int) - 1) = (k : Int) - 1 := w64_in (by omega) (by omega)
  simp only [e1, c1, decide_true, if_true, w1, w2]
  obtain ⟨h1, h2⟩ := e123 hc k (b - a) a d (by omega) hs (by omega)
  rw [h1, bd, T_len, T_len, h2, if_pos rfl]
  obtain ⟨h3, h4⟩ := e111l0 a b hab k _ (by omega) (by rw [h2]; exact hb) (by rw [h2]; exact hs)
  exact ⟨h3, by rw [h4, h2]⟩
theorem e111l1 (a : Nat) : ∀ (k : Nat) (d : Array α), a + k ≤ d.size → d.size < 1000 → F111l1 a ((k : Int) - 1) (T f d) = some (T f (Sort.heapPop (fun x y => decide (cv x y < 0)) a k d))
 | 0, d, hb, hs => by
  rw [F111l1, Sort.heapPop]
  have c1 : ¬ (((0 : Nat) : Int) - 1 ≥ 0) := by omega
  simp only [c1, decide_false, Bool.false_eq_true, if_false]
 | k + 1, d, hb, hs => by
  rw [F111l1, Sort.heapPop]
  have e1 : ((k + 1 : Nat) : Int) - 1 = (k : Int) := by omega
  have c1 : (k : Int) ≥ 0 := by omega
  have w1 : w64 ((a : Int) + (k : Int)) = ((a + k : Nat) : Int) := wn
  have w2 : w64 ((k : Int) - 1) = (k : Int) - 1 := w64_in (by omega) (by omega)
  simp only [e1, c1, decide_true, if_true, w1, w2]
  rw [rd (T_len d) rfl (by omega : a + k < d.size), rd (T_len d) rfl (by omega : a < d.size), wr rfl rfl (by omega) (by omega)]
  obtain ⟨h1, h2⟩ := e123 hc 0 k a (Sort.swp d a (a + k)) (by rw [sz]; omega) (by rw [sz]; exact hs) (by omega)
  rw [show (0 : Int) = ((0 : Nat) : Int) from rfl, h1, bd, T_len, T_len, h2, sz, if_pos rfl]
  exact e111l1 a k _ (by rw [h2, sz]; omega) (by rw [h2, sz]; exact hs)
theorem e111 (a b : Nat) (d : Array α) (hab : a < b) (hb : b ≤ d.size) (hs : d.size < 1000) : F111 (T f d) a b = some (T f (Sort.heapSort (fun x y => decide (cv x y < 0)) d a b)) := by
 unfold F111 Sort.heapSort
 have w1 : w64 ((b : Int) - (a : Int)) = ((b - a : Nat) : Int) := wn
 have w2 : w64 (((b - a : Nat) : Int) - 1) = ((b - a : Nat) : Int) - 1 := w64_in (by omega) (by omega)
 have e1 : ((b - a : Nat) : Int) - 1 = ((b - a - 1 : Nat) : Int) := by omega
 have w3 : w64 (Int.tdiv ((b - a - 1 : Nat) : Int) 2) = (((b - a - 1) / 2 + 1 : Nat) : Int) - 1 := by
  rw [show Int.tdiv ((b - a - 1 : Nat) : Int) 2 = (((b - a - 1) / 2 : Nat) : Int) from (Int.ofNat_tdiv (b - a - 1) 2).symm, wn rfl (by omega)]
  omega
 rw [w1, w2, e1, w3]
 obtain ⟨h1, h2⟩ := e111l0 hc a b (by omega) ((b - a - 1) / 2 + 1) d (by omega) hb hs
 rw [h1, bd, ← e1, e111l1 hc a (b - a) _ (by rw [h2]; omega) (by rw [h2]; exact hs)]
 rfl
theorem e114l0 : ∀ (n i j : Nat) (d : Array α), j - i ≤ n → j < d.size → d.size < 1000 → F114l0 i j (T f d) = some (T f (Sort.reverseLoop i j d))
 | 0, i, j, d, hn, hj, hs => by
  rw [F114l0, Sort.reverseLoop]
  have c1 : ¬ ((i : Int) < (j : Int)) := by omega
  have c2 : ¬ (i < j) := by omega
  simp only [c1, c2, decide_false, Bool.false_eq_true, if_false]
 | n + 1, i, j, d, hn, hj, hs => by
  rw [F114l0, Sort.reverseLoop]
  by_cases h : i < j
  · have c1 : ((i : Int) < (j : Int)) := by omega
    simp only [c1, h, decide_true, if_true]
    rw [rd (T_len d) rfl hj, rd (T_len d) rfl (by omega : i < d.size), wr rfl rfl (by omega) (by omega), wn (n := i + 1), wn (n := j - 1)]
    exact e114l0 n (i + 1) (j - 1) _ (by omega) (by rw [sz]; omega) (by rw [sz]; exact hs)
  have c1 : ¬ ((i : Int) < (j : Int)) := by omega
  simp only [c1, h, decide_false, Bool.false_eq_true, if_false]
theorem e114 (a b : Nat) (d : Array α) (hab : a < b) (hb : b ≤ d.size) (hs : d.size < 1000) : F114 (T f d) a b = some (T f (Sort.reverseRange d a b)) := by
 unfold F114 Sort.reverseRange
 rw [wn (n := b - 1), e114l0 hc _ a (b - 1) d (Nat.le_refl _) (by omega) hs]
 rfl
theorem e116l1 (a j : Nat) (d : Array α) (ha : a < d.size) (hj : j < d.size) (hs : d.size < 1000) : ∀ (n i : Nat), j + 1 - i = n → i ≤ 1000 → F116l1 a j (T f d) i = some (Sort.scanUp (fun x => !decide (cv d[a]! x < 0)) d j i : Int)
 | 0, i, hn, hi => by
  rw [F116l1, Sort.scanUp]
  have c1 : ¬ ((i : Int) ≤ (j : Int)) := by omega
  have c2 : ¬ (i ≤ j) := by omega
  simp only [c1, c2, decide_false, Bool.false_eq_true, if_false, bdb, bdi, Bool.false_and]
 | n + 1, i, hn, hi => by
  rw [F116l1, Sort.scanUp]
  have c1 : ((i : Int) ≤ (j : Int)) := by omega
  have c2 : (i ≤ j) := by omega
  simp only [c1, c2, decide_true, if_true, Bool.true_and]
  rw [rd (T_len d) rfl ha, rd (T_len d) rfl (by omega : i < d.size), cp hc, bdb]
  by_cases g : cv d[a]! d[i]! < 0
  · simp only [g, decide_true, Bool.not_true, Bool.false_eq_true, if_false]
  simp only [g, decide_false, Bool.not_false, if_true]
  rw [wn (n := i + 1)]
  exact e116l1 a j d ha hj hs n (i + 1) (by omega) (by omega)
theorem e116l2 (a i : Nat) (d : Array α) (ha : a < d.size) (hs : d.size < 1000) (hi : 0 < i) : ∀ (j : Nat), j < d.size → F116l2 a i (T f d) j = some (Sort.scanDown (fun x => decide (cv d[a]! x < 0)) d i j : Int)
 | 0, hj => by
  rw [F116l2, Sort.scanDown]
  have c1 : ¬ ((i : Int) ≤ ((0 : Nat) : Int)) := by omega
  simp only [c1, decide_false, Bool.false_eq_true, if_false, bdb, bdi]
 | j + 1, hj => by
  rw [F116l2, Sort.scanDown]
  by_cases h : i ≤ j + 1
  · have c1 : ((i : Int) ≤ ((j + 1 : Nat) : Int)) := by omega
    simp only [c1, h, decide_true, if_true, Bool.true_and]
    rw [rd (T_len d) rfl ha, rd (T_len d) rfl hj, cp hc, bdb]
    by_cases g : cv d[a]! d[j + 1]! < 0
    · simp only [g, decide_true, if_true]
      rw [wn (n := j)]
      exact e116l2 a i d ha hs hi j (by omega)
    simp only [g, decide_false, Bool.false_eq_true, if_false]
  have c1 : ¬ ((i : Int) ≤ ((j + 1 : Nat) : Int)) := by omega
  simp only [c1, h, decide_false, Bool.false_eq_true, if_false, bdb, bdi, Bool.false_and]
theorem e116l0 (a : Nat) : ∀ (n i j : Nat) (d : Array α), j + 1 - i ≤ n → 0 < i → i ≤ 1000 → a < d.size → j < d.size → d.size < 1000 → F116l0 a i j (T f d) = some (T f (Sort.partEqLoop (fun x y => decide (cv x y < 0)) a i j d).2, ((Sort.partEqLoop (fun x y => decide (cv x y < 0)) a i j d).1 : Int)) := by
 intro n
 induction n with
 | zero =>
  intro i j d hn h0 hi ha hj hs
  rw [F116l0, e116l1 hc a j d ha hj hs _ i rfl hi, bdi, e116l2 hc a _ d ha hs (by have := Sort.scanUp_ge (fun x => !decide (cv d[a]! x < 0)) d j i; omega) j hj, bdi, Sort.partEqLoop_eq]
  have h1 := Sort.scanUp_ge (fun x => !decide (cv d[a]! x < 0)) d j i
  have h2 := Sort.scanDown_le (fun x => decide (cv d[a]! x < 0)) d (Sort.scanUp (fun x => !decide (cv d[a]! x < 0)) d j i) j
  have c2 : Sort.scanUp (fun x => !decide (cv d[a]! x < 0)) d j i > Sort.scanDown (fun x => decide (cv d[a]! x < 0)) d (Sort.scanUp (fun x => !decide (cv d[a]! x < 0)) d j i) j := by omega
  have c1 : (Sort.scanUp (fun x => !decide (cv d[a]! x < 0)) d j i : Int) > (Sort.scanDown (fun x => decide (cv d[a]! x < 0)) d (Sort.scanUp (fun x => !decide (cv d[a]! x < 0)) d j i) j : Int) := by omega
  rw [if_pos (decide_eq_true c1), if_pos c2]
 | succ n ih =>
  intro i j d hn h0 hi ha hj hs
  have h1 := Sort.scanUp_ge (fun x => !decide (cv d[a]! x < 0)) d j i
  rw [F116l0, e116l1 hc a j d ha hj hs _ i rfl hi, bdi, e116l2 hc a _ d ha hs (by omega) j hj, bdi, Sort.partEqLoop_eq]
  have h2 := Sort.scanDown_le (fun x => decide (cv d[a]! x < 0)) d (Sort.scanUp (fun x => !decide (cv d[a]! x < 0)) d j i) j
  generalize Sort.scanDown (fun x => decide (cv d[a]! x < 0)) d (Sort.scanUp (fun x => !decide (cv d[a]! x < 0)) d j i) j = y at h2 ⊢
  generalize Sort.scanUp (fun x => !decide (cv d[a]! x < 0)) d j i = x at h1 ⊢
  by_cases h : x > y
  · have c1 : (x : Int) > (y : Int) := by omega
    rw [if_pos (decide_eq_true c1), if_pos h]
  have c1 : ¬ (x : Int) > (y : Int) := by omega
  rw [if_neg (by simpa using c1), if_neg h, rd (T_len d) rfl (by omega : y < d.size), rd (T_len d) rfl (by omega : x < d.size), wr rfl rfl (by omega) (by omega), wn (n := x + 1), wn (n := y - 1)]
  exact ih (x + 1) (y - 1) _ (by omega) (by omega) (by omega) (by rw [sz]; exact ha) (by rw [sz]; omega) (by rw [sz]; exact hs)
theorem e116 (a b p : Nat) (d : Array α) (hab : a < b) (hb : b ≤ d.size) (hs : d.size < 1000) (hp : p < d.size) : F116 (T f d) a b p = some (((Sort.partitionEqual (fun x y => decide (cv x y < 0)) d a b p).1 : Int), T f (Sort.partitionEqual (fun x y => decide (cv x y < 0)) d a b p).2) := by
 unfold F116 Sort.partitionEqual
 rw [rd (T_len d) rfl hp, rd (T_len d) rfl (by omega : a < d.size), wr rfl rfl (by omega) hp, wn (n := a + 1), wn (n := b - 1),
  e116l0 hc a _ (a + 1) (b - 1) _ (Nat.le_refl _) (by omega) (by omega) (by rw [sz]; omega) (by rw [sz]; omega) (by rw [sz]; exact hs)]
 rfl
theorem e117l0 (a b p : Nat) (d D : Array α) (hD : D = Sort.swp d a p) (ha : a < d.size) (hp : p < d.size) (hb : b ≤ d.size) (hab : a < b) (hs : d.size < 1000) : ∀ (n i : Nat), b - 1 + 1 - i = n → i ≤ 1000 → F117l0 (T f d) a b p (f d[p]!) (f d[a]!) i = some (Sort.scanUp (fun x => decide (cv x D[a]! < 0)) D (b - 1) i : Int)
 | 0, i, hn, hi => by
  rw [F117l0, Sort.scanUp, wn (n := b - 1)]
  have c1 : ¬ ((i : Int) ≤ ((b - 1 : Nat) : Int)) := by omega
  have c2 : ¬ (i ≤ b - 1) := by omega
  simp only [c1, c2, decide_false, Bool.false_eq_true, if_false, bdb, bdi, Bool.false_and]
 | n + 1, i, hn, hi => by
  have hz : D.size = d.size := by rw [hD, sz]
  rw [F117l0, Sort.scanUp, wn (n := b - 1)]
  have c1 : ((i : Int) ≤ ((b - 1 : Nat) : Int)) := by omega
  have c2 : (i ≤ b - 1) := by omega
  simp only [c1, c2, decide_true, if_true, Bool.true_and]
  rw [wr rfl rfl ha hp, ← hD, rd ((T_len d).trans hz.symm) rfl (by omega : i < D.size), rd ((T_len d).trans hz.symm) rfl (by omega : a < D.size), cp hc, bdb]
  by_cases g : cv D[i]! D[a]! < 0
  · simp only [g, decide_true, if_true]
    rw [wn (n := i + 1)]
    exact e117l0 a b p d D hD ha hp hb hab hs n (i + 1) (by omega) (by omega)
  simp only [g, decide_false, Bool.false_eq_true, if_false]
theorem e117l1 (a p i : Nat) (d D : Array α) (hD : D = Sort.swp d a p) (ha : a < d.size) (hp : p < d.size) (hs : d.size < 1000) (hi : 0 < i) : ∀ (j : Nat), j < d.size → F117l1 (T f d) a p (f d[p]!) (f d[a]!) i j = some (Sort.scanDown (fun x => !decide (cv x D[a]! < 0)) D i j : Int)
 | 0, hj => by
  rw [F117l1, Sort.scanDown]
  have c1 : ¬ ((i : Int) ≤ ((0 : Nat) : Int)) := by omega
  simp only [c1, decide_false, Bool.false_eq_true, if_false, bdb, bdi]
 | j + 1, hj => by
  have hz : D.size = d.size := by rw [hD, sz]
  rw [F117l1, Sort.scanDown]
  by_cases h : i ≤ j + 1
  · have c1 : ((i : Int) ≤ ((j + 1 : Nat) : Int)) := by omega
    simp only [c1, h, decide_true, if_true, Bool.true_and]
    rw [wr rfl rfl ha hp, ← hD, rd ((T_len d).trans hz.symm) rfl (by omega : j + 1 < D.size), rd ((T_len d).trans hz.symm) rfl (by omega : a < D.size), cp hc, bdb]
    by_cases g : cv D[j + 1]! D[a]! < 0
    · simp only [g, decide_true, Bool.not_true, Bool.false_eq_true, if_false]
    simp only [g, decide_false, Bool.not_false, if_true]
    rw [wn (n := j)]
    exact e117l1 a p i d D hD ha hp hs hi j (by omega)
  have c1 : ¬ ((i : Int) ≤ ((j + 1 : Nat) : Int)) := by omega
  simp only [c1, h, decide_false, Bool.false_eq_true, if_false, bdb, bdi, Bool.false_and]
theorem e117l3 (a j : Nat) (d : Array α) (ha : a < d.size) (hj : j < d.size) (hs : d.size < 1000) : ∀ (n i : Nat), j + 1 - i = n → i ≤ 1000 → F117l3 a j (T f d) i = some (Sort.scanUp (fun x => decide (cv x d[a]! < 0)) d j i : Int)
 | 0, i, hn, hi => by
  rw [F117l3, Sort.scanUp]
  have c1 : ¬ ((i : Int) ≤ (j : Int)) := by omega
  have c2 : ¬ (i ≤ j) := by omega
  simp only [c1, c2, decide_false, Bool.false_eq_true, if_false, bdb, bdi, Bool.false_and]
 | n + 1, i, hn, hi => by
  rw [F117l3, Sort.scanUp]
  have c1 : ((i : Int) ≤ (j : Int)) := by omega
  have c2 : (i ≤ j) := by omega
  simp only [c1, c2, decide_true, if_true, Bool.true_and]
  rw [rd (T_len d) rfl (by omega : i < d.size), rd (T_len d) rfl ha, cp hc, bdb]
  by_cases g : cv d[i]! d[a]! < 0
  · simp only [g, decide_true, if_true]
    rw [wn (n := i + 1)]
    exact e117l3 a j d ha hj hs n (i + 1) (by omega) (by omega)
  simp only [g, decide_false, Bool.false_eq_true, if_false]
theorem e117l4 (a i : Nat) (d : Array α) (ha : a < d.size) (hs : d.size < 1000) (hi : 0 < i) : ∀ (j : Nat), j < d.size → F117l4 a i (T f d) j = some (Sort.scanDown (fun x => !decide (cv x d[a]! < 0)) d i j : Int)
 | 0, hj => by
  rw [F117l4, Sort.scanDown]
  have c1 : ¬ ((i : Int) ≤ ((0 : Nat) : Int)) := by omega
  simp only [c1, decide_false, Bool.false_eq_true, if_false, bdb, bdi]
 | j + 1, hj => by
  rw [F117l4, Sort.scanDown]
  by_cases h : i ≤ j + 1
  · have c1 : ((i : Int) ≤ ((j + 1 : Nat) : Int)) := by omega
    simp only [c1, h, decide_true, if_true, Bool.true_and]
    rw [rd (T_len d) rfl hj, rd (T_len d) rfl ha, cp hc, bdb]
    by_cases g : cv d[j + 1]! d[a]! < 0
    · simp only [g, decide_true, Bool.not_true, Bool.false_eq_true, if_false]
    simp only [g, decide_false, Bool.not_false, if_true]
    rw [wn (n := j)]
    exact e117l4 a i d ha hs hi j (by omega)
  have c1 : ¬ ((i : Int) ≤ ((j + 1 : Nat) : Int)) := by omega
  simp only [c1, h, decide_false, Bool.false_eq_true, if_false, bdb, bdi, Bool.false_and]
theorem e117l2 (a : Nat) : ∀ (n i j : Nat) (d : Array α), j + 1 - i ≤ n → 0 < i → i ≤ 1000 → a < d.size → j < d.size → d.size < 1000 → F117l2 a i j (T f d) = some (T f (Sort.partLoop (fun x y => decide (cv x y < 0)) a i j d).2, ((Sort.partLoop (fun x y => decide (cv x y < 0)) a i j d).1 : Int)) ∧ (Sort.partLoop (fun x y => decide (cv x y < 0)) a i j d).2.size = d.size ∧ (Sort.partLoop (fun x y => decide (cv x y < 0)) a i j d).1 ≤ j := by
 intro n
 induction n with
 | zero =>
  intro i j d hn h0 hi ha hj hs
  rw [F117l2, e117l3 hc a j d ha hj hs _ i rfl hi, bdi, e117l4 hc a _ d ha hs (by have := Sort.scanUp_ge (fun x => decide (cv x d[a]! < 0)) d j i; omega) j hj, bdi, Sort.partLoop_eq]
  have h1 := Sort.scanUp_ge (fun x => decide (cv x d[a]! < 0)) d j i
  have h2 := Sort.scanDown_le (fun x => !decide (cv x d[a]! < 0)) d (Sort.scanUp (fun x => decide (cv x d[a]! < 0)) d j i) j
  have c2 : Sort.scanUp (fun x => decide (cv x d[a]! < 0)) d j i > Sort.scanDown (fun x => !decide (cv x d[a]! < 0)) d (Sort.scanUp (fun x => decide (cv x d[a]! < 0)) d j i) j := by omega
  have c1 : (Sort.scanUp (fun x => decide (cv x d[a]! < 0)) d j i : Int) > (Sort.scanDown (fun x => !decide (cv x d[a]! < 0)) d (Sort.scanUp (fun x => decide (cv x d[a]! < 0)) d j i) j : Int) := by omega
  rw [if_pos (decide_eq_true c1), if_pos c2]
  exact ⟨rfl, rfl, h2⟩
 | succ n ih =>
  intro i j d hn h0 hi ha hj hs
  have h1 := Sort.scanUp_ge (fun x => decide (cv x d[a]! < 0)) d j i
  rw [F117l2, e117l3 hc a j d ha hj hs _ i rfl hi, bdi, e117l4 hc a _ d ha hs (by omega) j hj, bdi, Sort.partLoop_eq]
  have h2 := Sort.scanDown_le (fun x => !decide (cv x d[a]! < 0)) d (Sort.scanUp (fun x => decide (cv x d[a]! < 0)) d j i) j
  generalize Sort.scanDown (fun x => !decide (cv x d[a]! < 0)) d (Sort.scanUp (fun x => decide (cv x d[a]! < 0)) d j i) j = y at h2 ⊢
  generalize Sort.scanUp (fun x => decide (cv x d[a]! < 0)) d j i = x at h1 ⊢
  by_cases h : x > y
  · have c1 : (x : Int) > (y : Int) := by omega
    rw [if_pos (decide_eq_true c1), if_pos h]
    exact ⟨rfl, rfl, h2⟩
  have c1 : ¬ (x : Int) > (y : Int) := by omega
  rw [if_neg (by simpa using c1), if_neg h, rd (T_len d) rfl (by omega : y < d.size), rd (T_len d) rfl (by omega : x < d.size), wr rfl rfl (by omega) (by omega), wn (n := x + 1), wn (n := y - 1)]
  obtain ⟨g1, g2, g3⟩ := ih (x + 1) (y - 1) (Sort.swp d x y) (by omega) (by omega) (by omega) (by rw [sz]; exact ha) (by rw [sz]; omega) (by rw [sz]; exact hs)
  exact ⟨g1, by rw [g2, sz], by omega⟩
theorem e117 (a b p : Nat) (d : Array α) (hab : a < b) (hb : b ≤ d.size) (hs : d.size < 1000) (hp : p < d.size) : F117 (T f d) a b p = some (((Sort.partition (fun x y => decide (cv x y < 0)) d a b p).1 : Int), (Sort.partition (fun x y => decide (cv x y < 0)) d a b p).2.1, T f (Sort.partition (fun x y => decide (cv x y < 0)) d a b p).2.2) := by
 unfold F117 Sort.partition
 generalize hD : Sort.swp d a p = D
 have hz : D.size = d.size := by rw [← hD, sz]
 rw [rd (T_len d) rfl hp, rd (T_len d) rfl (by omega : a < d.size), wn (n := a + 1), wn (n := b - 1),
  e117l0 hc a b p d D hD.symm (by omega) hp hb hab hs _ (a + 1) rfl (by omega), bdi]
 have h1 := Sort.scanUp_ge (fun x => decide (cv x D[a]! < 0)) D (b - 1) (a + 1)
 rw [e117l1 hc a p _ d D hD.symm (by omega) hp hs (by omega) (b - 1) (by omega), bdi, wr rfl rfl (by omega) hp, hD]
 have h2 := Sort.scanDown_le (fun x => !decide (cv x D[a]! < 0)) D (Sort.scanUp (fun x => decide (cv x D[a]! < 0)) D (b - 1) (a + 1)) (b - 1)
 simp only []
 generalize Sort.scanDown (fun x => !decide (cv x D[a]! < 0)) D (Sort.scanUp (fun x => decide (cv x D[a]! < 0)) D (b - 1) (a + 1)) (b - 1) = y at h2 ⊢
 generalize Sort.scanUp (fun x => decide (cv x D[a]! < 0)) D (b - 1) (a + 1) = x at h1 ⊢
 by_cases h : x > y
 · have c1 : (x : Int) > (y : Int) := by omega
   rw [if_pos (decide_eq_true c1), if_pos h, rd0 rfl (by omega : a < D.size), rd ((T_len d).trans hz.symm) rfl (by omega : y < D.size), wr rfl rfl (by omega) (by omega)]
 have c1 : ¬ (x : Int) > (y : Int) := by omega
 rw [if_neg (by simpa using c1), if_neg h, rd ((T_len d).trans hz.symm) rfl (by omega : y < D.size), rd ((T_len d).trans hz.symm) rfl (by omega : x < D.size), wr rfl rfl (by omega) (by omega), wn (n := x + 1), wn (n := y - 1)]
 obtain ⟨g1, g2, g3⟩ := e117l2 hc a _ (x + 1) (y - 1) (Sort.swp D x y) (Nat.le_refl _) (by omega) (by omega) (by rw [sz]; omega) (by rw [sz]; omega) (by rw [sz]; omega)
 rw [g1]
 have hz2 := g2.trans (sz D x y)
 generalize Sort.partLoop (fun x y => decide (cv x y < 0)) a (x + 1) (y - 1) (Sort.swp D x y) = q at g3 hz2 ⊢
 obtain ⟨m, E⟩ := q
 dsimp only at g3 hz2 ⊢
 rw [bd]
 dsimp only
 rw [rd (T_len E) rfl (by omega : a < E.size), rd (T_len E) rfl (by omega : m < E.size), wr rfl rfl (by omega) (by omega)]
theorem e115l1 (a b : Nat) (v : Int) (d : Array α) (hb : b ≤ d.size) (hs : d.size < 1000) : ∀ (n i : Nat), b - i = n → 1 ≤ i → i ≤ b → F115l1 a b v (T f d) i = some (Sort.scanSorted (fun x y => decide (cv x y < 0)) d b i : Int) ∧ i ≤ Sort.scanSorted (fun x y => decide (cv x y < 0)) d b i ∧ Sort.scanSorted (fun x y => decide (cv x y < 0)) d b i ≤ b
 | 0, i, hn, h1, hi => by
  rw [F115l1, Sort.scanSorted]
  have c1 : ¬ ((i : Int) < (b : Int)) := by omega
  have c2 : ¬ (i < b) := by omega
  simp only [c1, c2, decide_false, Bool.false_eq_true, if_false, bdb, bdi, Bool.false_and]
  exact ⟨trivial, Nat.le_refl _, hi⟩
 | n + 1, i, hn, h1, hi => by
  rw [F115l1, Sort.scanSorted]
  have c1 : ((i : Int) < (b : Int)) := by omega
  have c2 : (i < b) := by omega
  have w1 : w64 ((i : Int) - 1) = ((i - 1 : Nat) : Int) := wn
  simp only [c1, c2, decide_true, if_true, Bool.true_and, w1]
  rw [rd (T_len d) rfl (by omega : i < d.size), rd (T_len d) rfl (by omega : i - 1 < d.size), cp hc, bdb]
  by_cases g : cv d[i]! d[i - 1]! < 0
  · simp only [g, decide_true, Bool.not_true, Bool.false_eq_true, if_false]
    exact ⟨trivial, Nat.le_refl _, hi⟩
  simp only [g, decide_false, Bool.not_false, if_true]
  rw [wn (n := i + 1)]
  obtain ⟨h2, h3, h4⟩ := e115l1 a b v d hb hs n (i + 1) (by omega) (by omega) (by omega)
  exact ⟨h2, by omega, h4⟩
theorem e115l2 (a b i : Int) (v : Int) : ∀ (j : Nat) (d : Array α), j < d.size → d.size < 1000 → F115l2 a b i v j (T f d) = some (T f (Sort.shiftDown (fun x y => decide (cv x y < 0)) j d)) ∧ (Sort.shiftDown (fun x y => decide (cv x y < 0)) j d).size = d.size
 | 0, d, hj, hs => by
  rw [F115l2, Sort.shiftDown]
  have c1 : ¬ (((0 : Nat) : Int) ≥ 1) := by omega
  simp only [c1, decide_false, Bool.false_eq_true, if_false]
  exact ⟨trivial, trivial⟩
 | j + 1, d, hj, hs => by
  rw [F115l2, Sort.shiftDown]
  have c1 : (((j + 1 : Nat) : Int) ≥ 1) := by omega
  have w1 : w64 (((j + 1 : Nat) : Int) - 1) = (j : Int) := wn
  simp only [c1, decide_true, if_true, w1]
  rw [rd (T_len d) rfl hj, rd (T_len d) rfl (by omega : j < d.size), cp hc]
  by_cases g : cv d[j + 1]! d[j]! < 0
  · simp only [g, decide_true, Bool.not_true, Bool.false_eq_true, if_false]
    rw [wr rfl rfl hj (by omega)]
    obtain ⟨h1, h2⟩ := e115l2 a b i v j (Sort.swp d (j + 1) j) (by rw [sz]; omega) (by rw [sz]; exact hs)
    exact ⟨h1, by rw [h2, sz]⟩
  simp only [g, decide_false, Bool.not_false, if_true]
  exact ⟨trivial, trivial⟩
theorem e115l3 (a i : Int) (v : Int) (b : Nat) : ∀ (n j : Nat) (d : Array α), b - j = n → 1 ≤ j → b ≤ d.size → d.size < 1000 → F115l3 a b i v j (T f d) = some (T f (Sort.shiftUp (fun x y => decide (cv x y < 0)) b j d)) ∧ (Sort.shiftUp (fun x y => decide (cv x y < 0)) b j d).size = d.size
 | 0, j, d, hn, hj, hb, hs => by
  rw [F115l3, Sort.shiftUp]
  have c1 : ¬ ((j : Int) < (b : Int)) := by omega
  have c2 : ¬ (j < b) := by omega
  simp only [c1, c2, decide_false, Bool.false_eq_true, if_false]
  exact ⟨trivial, trivial⟩
 | n + 1, j, d, hn, hj, hb, hs => by
  rw [F115l3, Sort.shiftUp]
  have c1 : ((j : Int) < (b : Int)) := by omega
  have c2 : (j < b) := by omega
  have w1 : w64 ((j : Int) - 1) = ((j - 1 : Nat) : Int) := wn
  simp only [c1, c2, decide_true, if_true, w1]
  rw [rd (T_len d) rfl (by omega : j < d.size), rd (T_len d) rfl (by omega : j - 1 < d.size), cp hc]
  by_cases g : cv d[j]! d[j - 1]! < 0
  · simp only [g, decide_true, Bool.not_true, Bool.false_eq_true, if_false]
    rw [wr rfl rfl (by omega) (by omega), wn (n := j + 1)]
    obtain ⟨h1, h2⟩ := e115l3 a i v b n (j + 1) (Sort.swp d j (j - 1)) (by omega) (by omega) (by rw [sz]; omega) (by rw [sz]; exact hs)
    exact ⟨h1, by rw [h2, sz]⟩
  simp only [g, decide_false, Bool.not_false, if_true]
  exact ⟨trivial, trivial⟩
theorem e115l4 (a i : Int) (v : Int) (b : Nat) : ∀ (n j : Nat) (d : Array α), b - j = n → 1 ≤ j → b ≤ d.size → d.size < 1000 → F115l4 a b i v j (T f d) = some (T f (Sort.shiftUp (fun x y => decide (cv x y < 0)) b j d)) ∧ (Sort.shiftUp (fun x y => decide (cv x y < 0)) b j d).size = d.size
 | 0, j, d, hn, hj, hb, hs => by
  rw [F115l4, Sort.shiftUp]
  have c1 : ¬ ((j : Int) < (b : Int)) := by omega
  have c2 : ¬ (j < b) := by omega
  simp only [c1, c2, decide_false, Bool.false_eq_true, if_false]
  exact ⟨trivial, trivial⟩
 | n + 1, j, d, hn, hj, hb, hs => by
  rw [F115l4, Sort.shiftUp]
  have c1 : ((j : Int) < (b : Int)) := by omega
  have c2 : (j < b) := by omega
  have w1 : w64 ((j : Int) - 1) = ((j - 1 : Nat) : Int) := wn
  simp only [c1, c2, decide_true, if_true, w1]
  rw [rd (T_len d) rfl (by omega : j < d.size), rd (T_len d) rfl (by omega : j - 1 < d.size), cp hc]
  by_cases g : cv d[j]! d[j - 1]! < 0
  · simp only [g, decide_true, Bool.not_true, Bool.false_eq_true, if_false]
    rw [wr rfl rfl (by omega) (by omega), wn (n := j + 1)]
    obtain ⟨h1, h2⟩ := e115l4 a i v b n (j + 1) (Sort.swp d j (j - 1)) (by omega) (by omega) (by rw [sz]; omega) (by rw [sz]; exact hs)
    exact ⟨h1, by rw [h2, sz]⟩
  simp only [g, decide_false, Bool.not_false, if_true]
  exact ⟨trivial, trivial⟩
def PIout (r : (List El × Bool) ⊕ List El) : Option (Bool × List El) := match r with
 | .inl o => some (o.2, o.1)
 | .inr o => some (false, o)
theorem e115l0 (a b : Nat) : ∀ (s i : Nat) (d : Array α), s ≤ 5 → a < i → i ≤ b → b ≤ d.size → d.size < 1000 → ∃ x, F115l0 a b i ((5 - s : Nat) : Int) (T f d) = some x ∧ PIout x = some ((Sort.partialIns (fun x y => decide (cv x y < 0)) a b s i d).2, T f (Sort.partialIns (fun x y => decide (cv x y < 0)) a b s i d).1) ∧ (Sort.partialIns (fun x y => decide (cv x y < 0)) a b s i d).1.size = d.size
 | 0, i, d, h5, ha, hi, hb, hs => by
  rw [F115l0, Sort.partialIns]
  exact ⟨_, rfl, rfl, rfl⟩
 | s + 1, i, d, h5, ha, hi, hb, hs => by
  rw [F115l0, Sort.partialIns_succ]
  obtain ⟨h1, h2, h3⟩ := e115l1 hc a b ((5 - (s + 1) : Nat) : Int) d hb hs _ i rfl (by omega) hi
  have c0 : ((5 - (s + 1) : Nat) : Int) < 5 := by omega
  rw [if_pos (decide_eq_true c0), h1, bdi]
  generalize Sort.scanSorted (fun x y => decide (cv x y < 0)) d b i = t at h2 h3 ⊢
  by_cases hE : t = b
  · have c1 : ((t : Int) == (b : Int)) = true := by rw [hE]; exact beq_self_eq_true _
    rw [if_pos c1, if_pos hE]
    exact ⟨_, rfl, rfl, rfl⟩
  have c1 : ¬ ((t : Int) == (b : Int)) = true := fun h => hE (by have := eq_of_beq h; omega)
  rw [if_neg c1, if_neg hE, wn (n := b - a)]
  by_cases h50 : b - a < 50
  · have c2 : ((b - a : Nat) : Int) < 50 := by omega
    rw [if_pos (decide_eq_true c2), if_pos h50]
    exact ⟨_, rfl, rfl, rfl⟩
  have c2 : ¬ ((b - a : Nat) : Int) < 50 := by omega
  have w1 : w64 ((t : Int) - 1) = ((t - 1 : Nat) : Int) := wn
  have w2 : w64 ((t : Int) - (a : Int)) = ((t - a : Nat) : Int) := wn
  have w3 : w64 ((b : Int) - (t : Int)) = ((b - t : Nat) : Int) := wn
  have w4 : w64 ((t : Int) + 1) = ((t + 1 : Nat) : Int) := wn
  have w5 : w64 (((5 - (s + 1) : Nat) : Int) + 1) = ((5 - s : Nat) : Int) := wn
  rw [if_neg (by simpa using c2), if_neg h50]
  simp only [w1, w2, w3, w4, w5]
  rw [rd (T_len d) rfl (by omega : t - 1 < d.size), rd (T_len d) rfl (by omega : t < d.size), wr rfl rfl (by omega) (by omega)]
  have hz : (Sort.swp d t (t - 1)).size = d.size := sz _ _ _
  generalize Sort.swp d t (t - 1) = D at hz ⊢
  unfold Sort.fixUp Sort.fixDown
  by_cases k1 : t - a ≥ 2
  · have c3 : ((t - a : Nat) : Int) ≥ 2 := by omega
    obtain ⟨g1, g2⟩ := e115l2 hc a b t ((5 - (s + 1) : Nat) : Int) (t - 1) D (by omega) (by omega)
    rw [if_pos (decide_eq_true c3), if_pos k1, g1, bd]
    generalize Sort.shiftDown (fun x y => decide (cv x y < 0)) (t - 1) D = E at g2 ⊢
    by_cases k2 : b - t ≥ 2
    · have c4 : ((b - t : Nat) : Int) ≥ 2 := by omega
      obtain ⟨g3, g4⟩ := e115l3 hc a t ((5 - (s + 1) : Nat) : Int) b _ (t + 1) E rfl (by omega) (by omega) (by omega)
      rw [if_pos (decide_eq_true c4), if_pos k2, g3, bd]
      obtain ⟨x, q1, q2, q3⟩ := e115l0 a b s t _ (by omega) (by omega) h3 (by omega : b ≤ (Sort.shiftUp (fun x y => decide (cv x y < 0)) b (t + 1) E).size) (by omega)
      exact ⟨x, q1, q2, by omega⟩
    have c4 : ¬ ((b - t : Nat) : Int) ≥ 2 := by omega
    rw [if_neg (by simpa using c4), if_neg k2]
    obtain ⟨x, q1, q2, q3⟩ := e115l0 a b s t E (by omega) (by omega) h3 (by omega) (by omega)
    exact ⟨x, q1, q2, by omega⟩
  have c3 : ¬ ((t - a : Nat) : Int) ≥ 2 := by omega
  rw [if_neg (by simpa using c3), if_neg k1]
  by_cases k2 : b - t ≥ 2
  · have c4 : ((b - t : Nat) : Int) ≥ 2 := by omega
    obtain ⟨g3, g4⟩ := e115l4 hc a t ((5 - (s + 1) : Nat) : Int) b _ (t + 1) D rfl (by omega) (by omega) (by omega)
    rw [if_pos (decide_eq_true c4), if_pos k2, g3, bd]
    obtain ⟨x, q1, q2, q3⟩ := e115l0 a b s t _ (by omega) (by omega) h3 (by omega : b ≤ (Sort.shiftUp (fun x y => decide (cv x y < 0)) b (t + 1) D).size) (by omega)
    exact ⟨x, q1, q2, by omega⟩
  have c4 : ¬ ((b - t : Nat) : Int) ≥ 2 := by omega
  rw [if_neg (by simpa using c4), if_neg k2]
  obtain ⟨x, q1, q2, q3⟩ := e115l0 a b s t D (by omega) (by omega) h3 (by omega) (by omega)
  exact ⟨x, q1, q2, by omega⟩
theorem e115 (a b : Nat) (d : Array α) (hab : a < b) (hb : b ≤ d.size) (hs : d.size < 1000) : F115 (T f d) a b = some ((Sort.partialInsertionSort (fun x y => decide (cv x y < 0)) d a b).2, T f (Sort.partialInsertionSort (fun x y => decide (cv x y < 0)) d a b).1) ∧ (Sort.partialInsertionSort (fun x y => decide (cv x y < 0)) d a b).1.size = d.size := by
 unfold F115 Sort.partialInsertionSort
 obtain ⟨x, h1, h2, h3⟩ := e115l0 hc a b 5 (a + 1) d (Nat.le_refl _) (by omega) (by omega) hb hs
 rw [wn (n := a + 1), show F115l0 a b ((a + 1 : Nat) : Int) 0 (T f d) = some x from h1, bd]
 refine ⟨?_, h3⟩
 rw [← h2]
 cases x <;> rfl
theorem e127 (a b : Nat) (s : Int) (d : Array α) (ha : a < d.size) (hb : b < d.size) : ∃ x y : Nat, ∃ s' : Int, F127 (T f d) a b s = some ((x : Int), (y : Int), s') ∧ ((x = a ∧ y = b) ∨ (x = b ∧ y = a)) := by
 unfold F127
 rw [rd (T_len d) rfl hb, rd (T_len d) rfl ha, cp hc]
 by_cases g : cv d[b]! d[a]! < 0
 · rw [if_pos (decide_eq_true g)]
   exact ⟨b, a, _, rfl, .inr ⟨rfl, rfl⟩⟩
 rw [if_neg (by simpa using g)]
 exact ⟨a, b, _, rfl, .inl ⟨rfl, rfl⟩⟩
theorem e125 (a b c : Nat) (s : Int) (d : Array α) (ha : a < d.size) (hb : b < d.size) (h3 : c < d.size) : ∃ x : Nat, ∃ s' : Int, F125 (T f d) a b c s = some ((x : Int), s') ∧ (x = a ∨ x = b ∨ x = c) := by
 unfold F125
 obtain ⟨x1, y1, s1, e1, k1⟩ := e127 hc a b s d ha hb
 obtain ⟨x2, y2, s2, e2, k2⟩ := e127 hc y1 c s1 d (by omega) h3
 obtain ⟨x3, y3, s3, e3, k3⟩ := e127 hc x1 x2 s2 d (by omega) (by omega)
 rw [e1, bd]
 dsimp only
 rw [e2, bd]
 dsimp only
 rw [e3, bd]
 exact ⟨y3, s3, rfl, by omega⟩
theorem e124 (a : Nat) (s : Int) (d : Array α) (h1 : 1 ≤ a) (ha : a + 1 < d.size) (hs : d.size < 1000) : ∃ x : Nat, ∃ s' : Int, F124 (T f d) a s = some ((x : Int), s') ∧ (x = a - 1 ∨ x = a ∨ x = a + 1) := by
 unfold F124
 obtain ⟨x, s', e, k⟩ := e125 hc (a - 1) a (a + 1) s d (by omega) (by omega) ha
 rw [wn (n := a - 1), wn (n := a + 1), e, bd]
 exact ⟨x, s', rfl, k⟩
theorem e113 (a b : Nat) (d : Array α) (hab : a < b) (hb : b ≤ d.size) (hs : d.size < 1000) : ∃ x : Nat, ∃ h : Int, F113 (T f d) a b = some ((x : Int), h, T f d) ∧ a ≤ x ∧ x < b := by
 unfold F113
 have w1 : w64 ((b : Int) - (a : Int)) = ((b - a : Nat) : Int) := wn
 have w2 : w64 (Int.tdiv ((b - a : Nat) : Int) 4) = (((b - a) / 4 : Nat) : Int) := by
  rw [show Int.tdiv ((b - a : Nat) : Int) 4 = (((b - a) / 4 : Nat) : Int) from (Int.ofNat_tdiv (b - a) 4).symm, wn rfl (by omega)]
 have w3 : w64 ((((b - a) / 4 : Nat) : Int) * 1) = (((b - a) / 4 * 1 : Nat) : Int) := wn
 have w4 : w64 ((((b - a) / 4 : Nat) : Int) * 2) = (((b - a) / 4 * 2 : Nat) : Int) := wn
 have w5 : w64 ((((b - a) / 4 : Nat) : Int) * 3) = (((b - a) / 4 * 3 : Nat) : Int) := wn
 have w6 : w64 ((a : Int) + (((b - a) / 4 * 1 : Nat) : Int)) = ((a + (b - a) / 4 * 1 : Nat) : Int) := wn
 have w7 : w64 ((a : Int) + (((b - a) / 4 * 2 : Nat) : Int)) = ((a + (b - a) / 4 * 2 : Nat) : Int) := wn
 have w8 : w64 ((a : Int) + (((b - a) / 4 * 3 : Nat) : Int)) = ((a + (b - a) / 4 * 3 : Nat) : Int) := wn
 simp only [w1, w2, w3, w4, w5, w6, w7, w8]
 have fin : ∀ (x : Nat) (s : Int), a ≤ x → x < b → ∃ y : Nat, ∃ h : Int, ((some ((x : Int), s) : Option (Int × Int)) >>= fun m15 => if m15.2 == 0 then some (m15.1, (1 : Int), T f d) else if m15.2 == 12 then some (m15.1, 2, T f d) else some (m15.1, 0, T f d)) = some ((y : Int), h, T f d) ∧ a ≤ y ∧ y < b := by
  intro x s h1 h2
  rw [bd]
  dsimp only
  split
  · exact ⟨x, _, rfl, h1, h2⟩
  split
  · exact ⟨x, _, rfl, h1, h2⟩
  exact ⟨x, _, rfl, h1, h2⟩
 by_cases h8 : b - a ≥ 8
 · have c1 : ((b - a : Nat) : Int) ≥ 8 := by omega
   rw [if_pos (decide_eq_true c1)]
   by_cases h50 : b - a ≥ 50
   · have c2 : ((b - a : Nat) : Int) ≥ 50 := by omega
     rw [if_pos (decide_eq_true c2)]
     have q1 : a + 1 ≤ a + (b - a) / 4 * 1 ∧ a + (b - a) / 4 * 1 + 1 < b := by omega
     have q2 : a + 1 ≤ a + (b - a) / 4 * 2 ∧ a + (b - a) / 4 * 2 + 1 < b := by omega
     have q3 : a + 1 ≤ a + (b - a) / 4 * 3 ∧ a + (b - a) / 4 * 3 + 1 < b := by omega
     have md : ∀ m : Nat, a + 1 ≤ m ∧ m + 1 < b → ∀ s : Int, ∃ x : Nat, ∃ s' : Int, F124 (T f d) m s = some ((x : Int), s') ∧ a ≤ x ∧ x < b := by
      intro m hm s
      obtain ⟨x, s', e, k⟩ := e124 hc m s d (by omega) (by omega) hs
      exact ⟨x, s', e, by omega, by omega⟩
     obtain ⟨x1, s1, e1, k1⟩ := md _ q1 0
     obtain ⟨x2, s2, e2, k2⟩ := md _ q2 s1
     obtain ⟨x3, s3, e3, k3⟩ := md _ q3 s2
     obtain ⟨x4, s4, e4, k4⟩ := e125 hc x1 x2 x3 s3 d (Nat.lt_of_lt_of_le k1.2 hb) (Nat.lt_of_lt_of_le k2.2 hb) (Nat.lt_of_lt_of_le k3.2 hb)
     have k5 : a ≤ x4 ∧ x4 < b := by rcases k4 with rfl | rfl | rfl <;> assumption
     rw [e1, bd]
     dsimp only
     rw [e2, bd]
     dsimp only
     rw [e3, bd]
     dsimp only
     rw [bd]
     dsimp only
     rw [e4, bd]
     exact fin x4 s4 k5.1 k5.2
   have c2 : ¬ ((b - a : Nat) : Int) ≥ 50 := by omega
   rw [if_neg (by simpa using c2)]
   obtain ⟨x4, s4, e4, k4⟩ := e125 hc (a + (b - a) / 4 * 1) (a + (b - a) / 4 * 2) (a + (b - a) / 4 * 3) 0 d (by omega) (by omega) (by omega)
   have k5 : a ≤ x4 ∧ x4 < b := by omega
   rw [bd]
   dsimp only
   rw [e4, bd]
   exact fin x4 s4 k5.1 k5.2
 have c1 : ¬ ((b - a : Nat) : Int) ≥ 8 := by omega
 rw [if_neg (by simpa using c1)]
 exact fin (a + (b - a) / 4 * 2) 0 (by omega) (by omega)
omit hc in
theorem andu_rng (x : Int) {P : Nat} (hP : P = 16 ∨ P = 32 ∨ P = 64 ∨ P = 128) : ∃ n : Nat, andu x (IntKind.wrap .u64 ((P : Int) - 1)) = n ∧ n < P := by
 have h : (BitVec.ofInt 64 (IntKind.wrap .u64 ((P : Int) - 1))).toNat = P - 1 := by rcases hP with rfl | rfl | rfl | rfl <;> rfl
 refine ⟨(BitVec.ofInt 64 x &&& BitVec.ofInt 64 (IntKind.wrap .u64 ((P : Int) - 1))).toNat, ?_, ?_⟩
 · unfold andu
   have := (BitVec.ofInt 64 x &&& BitVec.ofInt 64 (IntKind.wrap .u64 ((P : Int) - 1))).isLt
   generalize (BitVec.ofInt 64 x &&& BitVec.ofInt 64 (IntKind.wrap .u64 ((P : Int) - 1))).toNat = m at this ⊢
   simp [IntKind.wrap, IntKind.signed, IntKind.bits]
   omega
 rw [BitVec.toNat_and, h]
 have := Nat.and_le_right (n := (BitVec.ofInt 64 x).toNat) (m := P - 1)
 omega
omit hc in
theorem pow2_is (n : Nat) (h8 : 8 ≤ n) (h73 : n < 73) : (pow2 n = 16 ∨ pow2 n = 32 ∨ pow2 n = 64 ∨ pow2 n = 128) ∧ pow2 n ≤ 2 * n := by
 unfold pow2
 split
 · omega
 split
 · omega
 split <;> omega
omit hc in
theorem e120 (v : Int) : ∃ x : Int, F120 v = some (x, x) := by
 unfold F120
 rw [if_pos (by decide), if_pos (by decide), if_pos (by decide), bdi]
 exact ⟨_, rfl⟩
theorem e112l0 (a b : Nat) (h8 : 8 ≤ b - a) (h73 : b - a < 73) : ∀ (n i : Nat) (d : Array α) (v : Int), a + (b - a) / 4 * 2 + 1 + 1 - i = n → a ≤ i → b ≤ d.size → d.size < 1000 → ∃ R : Array α, F112l0 a b (pow2 (b - a) : Int) i (T f d) v = some (T f R) ∧ Sort.PermIn a b d R := by
 intro n
 have w1 : w64 ((b : Int) - (a : Int)) = ((b - a : Nat) : Int) := wn
 have w2 : w64 (Int.tdiv ((b - a : Nat) : Int) 4) = (((b - a) / 4 : Nat) : Int) := by
  rw [show Int.tdiv ((b - a : Nat) : Int) 4 = (((b - a) / 4 : Nat) : Int) from (Int.ofNat_tdiv (b - a) 4).symm, wn rfl (by omega)]
 have w4 : w64 ((((b - a) / 4 : Nat) : Int) * 2) = (((b - a) / 4 * 2 : Nat) : Int) := wn
 induction n with
 | zero =>
  intro i d v hn hi hb hs
  have w7 : w64 ((a : Int) + (((b - a) / 4 * 2 : Nat) : Int)) = ((a + (b - a) / 4 * 2 : Nat) : Int) := wn
  have w8 : w64 (((a + (b - a) / 4 * 2 : Nat) : Int) + 1) = ((a + (b - a) / 4 * 2 + 1 : Nat) : Int) := wn
  rw [F112l0, w1, w2, w4, w7, w8, bdi]
  have c : ¬ ((i : Int) ≤ ((a + (b - a) / 4 * 2 + 1 : Nat) : Int)) := by omega
  rw [if_neg (by simpa using c)]
  exact ⟨d, rfl, Sort.permIn_refl d a b⟩
 | succ n ih =>
  intro i d v hn hi hb hs
  have w7 : w64 ((a : Int) + (((b - a) / 4 * 2 : Nat) : Int)) = ((a + (b - a) / 4 * 2 : Nat) : Int) := wn
  have w8 : w64 (((a + (b - a) / 4 * 2 : Nat) : Int) + 1) = ((a + (b - a) / 4 * 2 + 1 : Nat) : Int) := wn
  rw [F112l0, w1, w2, w4, w7, w8, bdi]
  have c : ((i : Int) ≤ ((a + (b - a) / 4 * 2 + 1 : Nat) : Int)) := by omega
  rw [if_pos (decide_eq_true c)]
  obtain ⟨x, hx⟩ := e120 v
  rw [hx, bd]
  dsimp only
  obtain ⟨hp, hp2⟩ := pow2_is (b - a) h8 h73
  obtain ⟨m, hm, hm2⟩ := andu_rng x hp
  rw [hm, wn (n := m) rfl (by omega)]
  have fin : ∀ q : Nat, q < b - a → ∃ R : Array α, ((some (q : Int) : Option Int) >>= fun m60 => if (0 : Int) ≤ w64 ((a : Int) + m60) ∧ w64 ((a : Int) + m60) < ((T f d).length : Int) then
   some (List.getD (T f d) (Int.toNat (w64 ((a : Int) + m60))) (0, 0)) >>= fun o63 =>
   if (0 : Int) ≤ (i : Int) ∧ (i : Int) < ((T f d).length : Int) then
    some (List.getD (T f d) (Int.toNat (i : Int)) (0, 0)) >>= fun o66 =>
    F112l0 a b (pow2 (b - a) : Int) (w64 ((i : Int) + 1)) (List.set (List.set (T f d) (Int.toNat (i : Int)) ((o63).1, (o63).2)) (Int.toNat (w64 ((a : Int) + m60))) ((o66).1, (o66).2)) x
   else none
   else none) = some (T f R) ∧ Sort.PermIn a b d R := by
   intro q hq
   rw [bdi]
   have w9 : w64 ((a : Int) + (q : Int)) = ((a + q : Nat) : Int) := wn
   rw [w9, rd (T_len d) rfl (by omega : a + q < d.size), rd (T_len d) rfl (by omega : i < d.size), wr rfl rfl (by omega) (by omega), wn (n := i + 1)]
   obtain ⟨R, h1, h2⟩ := ih (i + 1) (Sort.swp d i (a + q)) x (by omega) (by omega) (by rw [sz]; exact hb) (by rw [sz]; exact hs)
   exact ⟨R, h1, Sort.permIn_trans _ _ _ a b (Sort.swp_permIn d a b i (a + q) hi (by omega) (by omega) (by omega) hb) h2⟩
  by_cases g : m ≥ b - a
  · have c1 : (m : Int) ≥ ((b - a : Nat) : Int) := by omega
    rw [if_pos (decide_eq_true c1), wn (n := m - (b - a)), bdi]
    exact fin (m - (b - a)) (by omega)
  have c1 : ¬ (m : Int) ≥ ((b - a : Nat) : Int) := by omega
  rw [if_neg (by simpa using c1)]
  exact fin m (by omega)
theorem e112 (a b : Nat) (d : Array α) (hab : 12 < b - a) (h73 : b - a < 73) (hb : b ≤ d.size) (hs : d.size < 1000) : ∃ R : Array α, F112 (T f d) a b = some (T f R) ∧ Sort.PermIn a b d R := by
 unfold F112
 have w1 : w64 ((b : Int) - (a : Int)) = ((b - a : Nat) : Int) := wn
 have w2 : w64 (Int.tdiv ((b - a : Nat) : Int) 4) = (((b - a) / 4 : Nat) : Int) := by
  rw [show Int.tdiv ((b - a : Nat) : Int) 4 = (((b - a) / 4 : Nat) : Int) from (Int.ofNat_tdiv (b - a) 4).symm, wn rfl (by omega)]
 have w4 : w64 ((((b - a) / 4 : Nat) : Int) * 2) = (((b - a) / 4 * 2 : Nat) : Int) := wn
 have w7 : w64 ((a : Int) + (((b - a) / 4 * 2 : Nat) : Int)) = ((a + (b - a) / 4 * 2 : Nat) : Int) := wn
 have w8 : w64 (((a + (b - a) / 4 * 2 : Nat) : Int) - 1) = ((a + (b - a) / 4 * 2 - 1 : Nat) : Int) := wn
 have c : ((b - a : Nat) : Int) ≥ 8 := by omega
 have hN : F119 ((b - a : Nat) : Int) = some (pow2 (b - a) : Int) := by
  unfold F119
  rw [if_pos ⟨by omega, by omega⟩, Int.toNat_natCast]
 rw [w1, w2, w4, w7, w8, if_pos (decide_eq_true c), hN, bdi, bdi]
 obtain ⟨R, h1, h2⟩ := e112l0 hc a b (by omega) h73 _ (a + (b - a) / 4 * 2 - 1) d (IntKind.wrap .u64 ((b - a : Nat) : Int)) rfl (by omega) hb hs
 rw [h1]
 exact ⟨R, rfl, h2⟩
def tl2 (rec99 : List El → Int → Int → Int → Option (List El)) (v : List El) (p a b lim : Int) : Option (List El) :=
 F117 v a b p >>= fun r651 =>
 if List.length r651.2.2 = List.length v then
  (
   if decide ((w64 (r651.1 - a)) < (w64 (b - r651.1))) then
    rec99 r651.2.2 a r651.1 lim >>= fun r672 =>
    if List.length r672 = List.length r651.2.2 then
     some (r672, w64 (r651.1 + 1), b, decide ((w64 (r651.1 - a)) ≥ (w64 (Int.tdiv (w64 (b - a)) 8))))
    else none
   else
    rec99 r651.2.2 (w64 (r651.1 + 1)) b lim >>= fun r675 =>
    if List.length r675 = List.length r651.2.2 then
     some (r675, a, r651.1, decide ((w64 (b - r651.1)) ≥ (w64 (Int.tdiv (w64 (b - a)) 8))))
    else none
  : Option ((List El) × Int × Int × Bool)) >>= fun m669 =>
  F99l0 rec99 (m669.2.1, m669.2.2.1, lim, m669.2.2.2, r651.2.1, m669.1)
 else none
def tl1 (rec99 : List El → Int → Int → Int → Option (List El)) (v : List El) (p a b lim : Int) (wb wp : Bool) : Option (List El) :=
 (
  if decide (a > 0) then
   if (0 : Int) ≤ w64 (a - 1) ∧ w64 (a - 1) < (v.length : Int) then
    some (List.getD v (Int.toNat (w64 (a - 1))) (0, 0)) >>= fun o637 =>
    if (0 : Int) ≤ p ∧ p < (v.length : Int) then
     some (List.getD v (Int.toNat p) (0, 0)) >>= fun o640 =>
     F87 (o637).1 (o637).2 (o640).1 (o640).2 >>= fun r642 =>
     some (!(decide (r642 < 0)))
    else none
   else none
  else
   some (false)
 : Option Bool) >>= fun m644 =>
 if m644 then
  F116 v a b p >>= fun r648 =>
  if List.length r648.2 = List.length v then
   F99l0 rec99 (r648.1, b, lim, wb, wp, r648.2)
  else none
 else tl2 rec99 v p a b lim
def Does (f : α → El) (cv : α → α → Int) (x : Option (List El)) (a b : Nat) (d : Array α) : Prop := ∃ R : Array α, x = some (T f R) ∧ Sort.PermIn a b d R ∧ Sort.SortedIn (fun x y => decide (cv x y < 0)) a b R
theorem tl2_ok (hS : Sort.SWO (fun x y => decide (cv x y < 0))) {rec99 : List El → Int → Int → Int → Option (List El)} {a b p lim : Nat} {d : Array α} (hp1 : a ≤ p) (hp2 : p < b) (hb : b ≤ d.size) (hs : d.size < 1000) (hB : Sort.Below (fun x y => decide (cv x y < 0)) a b d)
 (IHr : ∀ (a' b' : Nat) (d' : Array α), a' ≤ b' → b' ≤ d'.size → d'.size < 1000 → b' - a' < b - a → Sort.Below (fun x y => decide (cv x y < 0)) a' b' d' → Does f cv (rec99 (T f d') a' b' lim) a' b' d')
 (IHl : ∀ (a' b' : Nat) (d' : Array α) (wb wp : Bool), a' ≤ b' → b' ≤ d'.size → d'.size < 1000 → b' - a' < b - a → Sort.Below (fun x y => decide (cv x y < 0)) a' b' d' → Does f cv (F99l0 rec99 (a', b', lim, wb, wp, T f d')) a' b' d') : Does f cv (tl2 rec99 (T f d) p a b lim) a b d := by
 unfold tl2
 rw [e117 hc a b p d (by omega) hb hs (by omega), bd]
 obtain ⟨g1, g2, hs4, hBa, hBr, hleft, hright⟩ := Sort.round_part hS (Sort.partition_holds _) hp1 hp2 hb hB (mid := (Sort.partition (fun x y => decide (cv x y < 0)) d a b p).1) (ap := (Sort.partition (fun x y => decide (cv x y < 0)) d a b p).2.1) (d4 := (Sort.partition (fun x y => decide (cv x y < 0)) d a b p).2.2) rfl
 generalize Sort.partition (fun x y => decide (cv x y < 0)) d a b p = q at g1 g2 hs4 hBa hBr hleft hright ⊢
 obtain ⟨m, ap, D⟩ := q
 dsimp only at g1 g2 hs4 hBa hBr hleft hright ⊢
 rw [T_len, T_len, if_pos hs4]
 have w1 : w64 ((m : Int) - (a : Int)) = ((m - a : Nat) : Int) := wn
 have w2 : w64 ((b : Int) - (m : Int)) = ((b - m : Nat) : Int) := wn
 have w3 : w64 ((m : Int) + 1) = ((m + 1 : Nat) : Int) := wn
 rw [w1, w2, w3]
 split
 · obtain ⟨L, e1, l1, l2⟩ := IHr a m D g1 (by omega) (by omega) (by omega) hBa
   rw [e1, bd, T_len, if_pos (by rw [l1.1]), bd]
   dsimp only
   obtain ⟨hBL, hfin⟩ := hleft _ l1 l2
   obtain ⟨R, e2, r1, r2⟩ := IHl (m + 1) b L (decide (((m - a : Nat) : Int) ≥ (w64 (Int.tdiv (w64 ((b : Int) - (a : Int))) 8)))) ap (by omega) (by rw [l1.1, hs4]; exact hb) (by rw [l1.1, hs4]; exact hs) (by omega) hBL
   exact ⟨R, e2, hfin _ r1 r2⟩
 obtain ⟨L, e1, l1, l2⟩ := IHr (m + 1) b D (by omega) (by omega) (by omega) (by omega) hBr
 rw [e1, bd, T_len, if_pos (by rw [l1.1]), bd]
 dsimp only
 obtain ⟨hBL, hfin⟩ := hright _ l1 l2
 obtain ⟨R, e2, r1, r2⟩ := IHl a m L (decide (((b - m : Nat) : Int) ≥ (w64 (Int.tdiv (w64 ((b : Int) - (a : Int))) 8)))) ap g1 (by rw [l1.1, hs4]; omega) (by rw [l1.1, hs4]; exact hs) (by omega) hBL
 exact ⟨R, e2, hfin _ r1 r2⟩
theorem tl1_ok (hS : Sort.SWO (fun x y => decide (cv x y < 0))) {rec99 : List El → Int → Int → Int → Option (List El)} {a b p lim : Nat} {d : Array α} (wb wp : Bool) (hp1 : a ≤ p) (hp2 : p < b) (hb : b ≤ d.size) (hs : d.size < 1000) (hB : Sort.Below (fun x y => decide (cv x y < 0)) a b d)
 (IHr : ∀ (a' b' : Nat) (d' : Array α), a' ≤ b' → b' ≤ d'.size → d'.size < 1000 → b' - a' < b - a → Sort.Below (fun x y => decide (cv x y < 0)) a' b' d' → Does f cv (rec99 (T f d') a' b' lim) a' b' d')
 (IHl : ∀ (a' b' : Nat) (d' : Array α) (wb wp : Bool), a' ≤ b' → b' ≤ d'.size → d'.size < 1000 → b' - a' < b - a → Sort.Below (fun x y => decide (cv x y < 0)) a' b' d' → Does f cv (F99l0 rec99 (a', b', lim, wb, wp, T f d')) a' b' d') : Does f cv (tl1 rec99 (T f d) p a b lim wb wp) a b d := by
 have h2 := tl2_ok hc hS hp1 hp2 hb hs hB IHr IHl
 unfold tl1
 by_cases h0 : 0 < a
 · have c1 : (a : Int) > 0 := by omega
   rw [if_pos (decide_eq_true c1), wn (n := a - 1), rd (T_len d) rfl (by omega : a - 1 < d.size), rd (T_len d) rfl (by omega : p < d.size), cp hc, bdb]
   by_cases g : cv d[a - 1]! d[p]! < 0
   · rw [if_neg (by simp [g])]
     exact h2
   rw [if_pos (by simp [g]), e116 hc a b p d (by omega) hb hs (by omega), bd]
   obtain ⟨g1, g2, hs4, hB4, hfin⟩ := Sort.round_eq hS (Sort.partitionEqual_holds _) h0 hp1 hp2 hb hB (by simp [g]) (mid := (Sort.partitionEqual (fun x y => decide (cv x y < 0)) d a b p).1) (d4 := (Sort.partitionEqual (fun x y => decide (cv x y < 0)) d a b p).2) rfl
   generalize Sort.partitionEqual (fun x y => decide (cv x y < 0)) d a b p = q at g1 g2 hs4 hB4 hfin ⊢
   obtain ⟨m, D⟩ := q
   dsimp only at g1 g2 hs4 hB4 hfin ⊢
   rw [T_len, T_len, if_pos hs4]
   obtain ⟨R, e2, r1, r2⟩ := IHl m b D wb wp g2 (by omega) (by omega) (by omega) hB4
   exact ⟨R, e2, hfin _ r1 r2⟩
 have c1 : ¬ (a : Int) > 0 := by omega
 rw [if_neg (by simpa using c1), bdb, if_neg (by simp)]
 exact h2
theorem Does.of {x : Option (List El)} {a b : Nat} {d d' : Array α} (h : Sort.PermIn a b d d') (g : Does f cv x a b d') : Does f cv x a b d := by
 obtain ⟨R, e, r1, r2⟩ := g
 exact ⟨R, e, Sort.permIn_trans _ _ _ a b h r1, r2⟩
theorem loop_ok (hS : Sort.SWO (fun x y => decide (cv x y < 0))) (k : Nat) (IH : ∀ (a b lim : Nat) (d : Array α), lim < 1000 → a ≤ b → b ≤ d.size → d.size < 1000 → b - a < k → b - a < 73 → Sort.Below (fun x y => decide (cv x y < 0)) a b d → Does f cv (F99 k (T f d) a b lim) a b d) :
 ∀ (n a b lim : Nat) (wb wp : Bool) (d : Array α), lim < 1000 → b - a ≤ n → a ≤ b → b ≤ d.size → d.size < 1000 → b - a ≤ k → b - a < 73 → Sort.Below (fun x y => decide (cv x y < 0)) a b d → Does f cv (F99l0 (F99 k) (a, b, lim, wb, wp, T f d)) a b d := by
 intro n
 induction n with
 | zero =>
  intro a b lim wb wp d hlm hn hab hb hs hk h73 hB
  rw [F99l0]
  dsimp only
  have w1 : w64 ((b : Int) - (a : Int)) = ((b - a : Nat) : Int) := wn
  have c1 : w64 ((b : Int) - (a : Int)) ≤ 12 := by rw [w1]; omega
  rw [if_pos (decide_eq_true c1), e110 hc a b d (by omega) hb hs, bd]
  obtain ⟨q1, q2⟩ := Sort.insertionSort_holds hS d a b hab hb
  rw [T_len, T_len, if_pos q1.1]
  exact ⟨_, rfl, q1, q2⟩
 | succ n ih =>
  intro a b lim wb wp d hlm hn hab hb hs hk h73 hB
  rw [F99l0]
  dsimp only
  have w1 : w64 ((b : Int) - (a : Int)) = ((b - a : Nat) : Int) := wn
  by_cases h12 : b - a ≤ 12
  · have c1 : w64 ((b : Int) - (a : Int)) ≤ 12 := by rw [w1]; omega
    rw [if_pos (decide_eq_true c1), e110 hc a b d (by omega) hb hs, bd]
    obtain ⟨q1, q2⟩ := Sort.insertionSort_holds hS d a b hab hb
    rw [T_len, T_len, if_pos q1.1]
    exact ⟨_, rfl, q1, q2⟩
  have c1 : ¬ w64 ((b : Int) - (a : Int)) ≤ 12 := by rw [w1]; omega
  rw [if_neg (by simpa using c1)]
  by_cases hl : lim = 0
  · have c2 : (((lim : Nat) : Int) == 0) = true := by rw [hl]; rfl
    rw [if_pos c2, e111 hc a b d (by omega) hb hs, bd]
    obtain ⟨q1, q2⟩ := Sort.heapSort_holds hS d a b hab hb
    rw [T_len, T_len, if_pos q1.1]
    exact ⟨_, rfl, q1, q2⟩
  have c2 : ¬ (((lim : Nat) : Int) == 0) = true := fun h => hl (by have := eq_of_beq h; omega)
  rw [if_neg c2]
  have s1 : ∃ (d1 : Array α) (l1 : Nat), (if (!wb) = true then F112 (T f d) a b >>= fun r729 => if List.length r729 = List.length (T f d) then some (r729, w64 ((lim : Int) - 1)) else none else some (T f d, (lim : Int)) : Option (List El × Int)) = some (T f d1, (l1 : Int)) ∧ Sort.PermIn a b d d1 ∧ l1 < 1000 := by
   cases wb with
   | true => exact ⟨d, lim, rfl, Sort.permIn_refl d a b, hlm⟩
   | false =>
    obtain ⟨R, e1, p1⟩ := e112 hc a b d (by omega) h73 hb hs
    refine ⟨R, lim - 1, ?_, p1, by omega⟩
    rw [if_pos (show (!false) = true from rfl), e1, bd, T_len, T_len, if_pos p1.1, wn (n := lim - 1)]
  obtain ⟨d1, l1, e1, p1, hl1⟩ := s1
  rw [e1, bd]
  dsimp only
  have b1 : b ≤ d1.size := by rw [p1.1]; exact hb
  have z1 : d1.size < 1000 := by rw [p1.1]; exact hs
  obtain ⟨pv, hh, e2, p2, p3⟩ := e113 hc a b d1 (by omega) b1 z1
  rw [e2, bd]
  dsimp only
  rw [if_pos rfl]
  have s2 : ∃ (d2 : Array α) (p : Nat) (h2 : Int), (if (hh == 2) = true then F114 (T f d1) a b >>= fun r725 => if List.length r725 = List.length (T f d1) then some (r725, w64 (w64 ((b : Int) - 1) - w64 ((pv : Int) - (a : Int))), (1 : Int)) else none else some (T f d1, (pv : Int), hh) : Option (List El × Int × Int)) = some (T f d2, (p : Int), h2) ∧ Sort.PermIn a b d1 d2 ∧ a ≤ p ∧ p < b := by
   split
   · have q := Sort.reverseRange_holds d1 a b hab b1
     rw [e114 hc a b d1 (by omega) b1 z1, bd, T_len, T_len, if_pos q.1, wn (x := (b : Int) - 1) (n := b - 1), wn (x := (pv : Int) - (a : Int)) (n := pv - a), wn (n := b - 1 - (pv - a))]
     exact ⟨_, _, _, rfl, q, by omega, by omega⟩
   exact ⟨d1, pv, hh, rfl, Sort.permIn_refl d1 a b, p2, p3⟩
  obtain ⟨d2, p, h2, e3, q2, q3, q4⟩ := s2
  rw [e3, bd]
  dsimp only
  have b2 : b ≤ d2.size := by rw [q2.1]; exact b1
  have z2 : d2.size < 1000 := by rw [q2.1]; exact z1
  have P2 : Sort.PermIn a b d d2 := Sort.permIn_trans _ _ _ a b p1 q2
  have B2 : Sort.Below (fun x y => decide (cv x y < 0)) a b d2 := hB.perm hb P2
  have s3 : ∃ (wb2 wp2 c : Bool), (if wb = true then if wp = true then some (true, true, h2 == 1) else some (true, false, false) else some (false, wp, false) : Option (Bool × Bool × Bool)) = some (wb2, wp2, c) := by
   split
   · split
     · exact ⟨_, _, _, rfl⟩
     exact ⟨_, _, _, rfl⟩
   exact ⟨_, _, _, rfl⟩
  obtain ⟨wb2, wp2, c, e4⟩ := s3
  rw [e4, bd]
  dsimp only
  have tail : ∀ d3 : Array α, Sort.PermIn a b d2 d3 → Does f cv (tl1 (F99 k) (T f d3) p a b l1 wb2 wp2) a b d := by
   intro d3 p3
   refine Does.of hc (Sort.permIn_trans _ _ _ a b P2 p3) (tl1_ok hc hS wb2 wp2 q3 q4 (by rw [p3.1]; exact b2) (by rw [p3.1]; exact z2) (B2.perm b2 p3) ?_ ?_)
   · intro a' b' d' g1 g2 g3 g4 g5
     exact IH a' b' l1 d' hl1 g1 g2 g3 (by omega) (by omega) g5
   intro a' b' d' wb wp g1 g2 g3 g4 g5
   exact ih a' b' l1 wb wp d' hl1 (by omega) g1 g2 g3 (by omega) (by omega) g5
  cases c with
  | false =>
   rw [if_neg Bool.false_ne_true]
   exact tail d2 (Sort.permIn_refl d2 a b)
  | true =>
   obtain ⟨e5, z5⟩ := e115 hc a b d2 (by omega) b2 z2
   obtain ⟨r1, r2⟩ := Sort.partialInsertionSort_holds hS d2 a b (by omega) b2 B2
   generalize Sort.partialInsertionSort (fun x y => decide (cv x y < 0)) d2 a b = q at e5 z5 r1 r2
   obtain ⟨d3, fl⟩ := q
   dsimp only at e5 z5 r1 r2
   rw [if_pos rfl, e5, bd]
   dsimp only
   rw [if_pos (show List.length (T f d3) = List.length (T f d2) by rw [T_len, T_len, z5])]
   cases fl with
   | true => exact ⟨d3, rfl, Sort.permIn_trans _ _ _ a b P2 r1, r2 rfl⟩
   | false =>
    rw [if_neg Bool.false_ne_true]
    exact tail d3 r1
omit hc in
theorem bl_le (n : Nat) : bl n ≤ 7 := by
 unfold bl
 repeat' split
 all_goals omega
theorem pdq_ok (hS : Sort.SWO (fun x y => decide (cv x y < 0))) : ∀ (k a b lim : Nat) (d : Array α), lim < 1000 → a ≤ b → b ≤ d.size → d.size < 1000 → b - a < k → b - a < 73 → Sort.Below (fun x y => decide (cv x y < 0)) a b d → Does f cv (F99 k (T f d) a b lim) a b d := by
 intro k
 induction k with
 | zero => intro a b lim d _ _ _ _ h; omega
 | succ k ih =>
  intro a b lim d hlm hab hb hs hk h73 hB
  obtain ⟨R, e, r1, r2⟩ := loop_ok hc hS k ih _ a b lim true true d hlm (Nat.le_refl _) hab hb hs (by omega) h73 hB
  refine ⟨R, ?_, r1, r2⟩
  show F99b (F99 k) (T f d) a b lim = _
  unfold F99b
  rw [e]
  rfl
theorem sorted (hS : Sort.SWO (fun x y => decide (cv x y < 0))) {L : List α} (hl : L.length < 73) : ∃ M : List α, sort92 (L.map f) = some (M.map f) ∧ M.Perm L ∧ M.Pairwise fun a b => ¬ cv b a < 0 := by
 obtain ⟨R, e, r1, r2⟩ := pdq_ok hc hS 100 0 L.length (bl L.length) L.toArray (by have := bl_le L.length; omega) (Nat.zero_le _) (by simp) (by simp; omega) (by omega) (by omega) (.inl rfl)
 have hz : R.size = L.length := by rw [r1.1]; simp
 refine ⟨R.toList, ?_, ?_, ?_⟩
 · unfold sort92
   have e' : F99 100 (L.map f) 0 (L.length : Int) (bl L.length : Int) = some (R.toList.map f) := e
   rw [List.length_map, if_pos hl, e', bd, if_pos (by rw [List.length_map, Array.length_toList, hz])]
 · have := r1.2.2
   have e1 : R.extract 0 L.length = R := by rw [← hz]; simp
   have e2 : L.toArray.extract 0 L.length = L.toArray := by simp
   rw [e1, e2] at this
   exact this
 rw [List.pairwise_iff_getElem]
 intro i j hi hj hij
 have hi' : i < R.size := by simpa using hi
 have hj' : j < R.size := by simpa using hj
 have := r2 i j (Nat.zero_le _) hij (by omega)
 rw [getElem!_pos R i hi', getElem!_pos R j hj'] at this
 simpa using this
end
theorem sort92_eq {α : Type} {f : α → El} {lt : α → α → Prop} {G : α → Prop} (x0 : α) (hx0 : G x0) (hcmp : ∀ a b, G a → G b → ∃ r, cm (f a) (f b) = some r ∧ (r < 0 ↔ lt a b)) (tr : ∀ a b c, ¬ lt a b → ¬ lt b c → ¬ lt a c) (asy : ∀ a b, lt a b → ¬ lt b a) {L : List α} (hl : L.length < 73) (hG : ∀ a ∈ L, G a) : ∃ M : List α, sort92 (L.map f) = some (M.map f) ∧ M.Perm L ∧ M.Pairwise fun a b => ¬ lt b a := by
 haveI : Inhabited {a : α // G a} := ⟨⟨x0, hx0⟩⟩
 have hc : ∀ a b : {a : α // G a}, cm (f a.1) (f b.1) = some ((cm (f a.1) (f b.1)).getD 0) := by
  intro a b
  obtain ⟨r, e, _⟩ := hcmp a.1 b.1 a.2 b.2
  rw [e]
  rfl
 have hlt : ∀ a b : {a : α // G a}, decide ((cm (f a.1) (f b.1)).getD 0 < 0) = true ↔ lt a.1 b.1 := by
  intro a b
  obtain ⟨r, e, h⟩ := hcmp a.1 b.1 a.2 b.2
  rw [e, decide_eq_true_eq]
  exact h
 have hnl : ∀ a b : {a : α // G a}, decide ((cm (f a.1) (f b.1)).getD 0 < 0) = false ↔ ¬ lt a.1 b.1 := by
  intro a b
  rw [← hlt a b]
  simp
 have hS : Sort.SWO (fun a b : {a : α // G a} => decide ((cm (f a.1) (f b.1)).getD 0 < 0)) := by
  refine ⟨fun x => ?_, fun x y z h1 h2 => ?_, fun x y z h1 h2 => ?_⟩
  · exact (hnl x x).2 fun h => asy _ _ h h
  · have h1 := (hlt x y).1 h1
    have h2 := (hlt y z).1 h2
    refine (hlt x z).2 (Classical.byContradiction fun h => ?_)
    exact tr _ _ _ h (asy _ _ h2) h1
  exact (hnl x z).2 (tr _ _ _ ((hnl x y).1 h1) ((hnl y z).1 h2))
 have hv : (L.attach.map fun a : {x // x ∈ L} => (⟨a.1, hG a.1 a.2⟩ : {a : α // G a})).map Subtype.val = L := by
  rw [List.map_map]
  exact List.attach_map_subtype_val L
 generalize (L.attach.map fun a : {x // x ∈ L} => (⟨a.1, hG a.1 a.2⟩ : {a : α // G a})) = K at hv
 subst hv
 obtain ⟨M, e, p, s⟩ := sorted (α := {a : α // G a}) (f := fun a => f a.1) (cv := fun a b => (cm (f a.1) (f b.1)).getD 0) hc hS (L := K) (by simpa using hl)
 refine ⟨M.map Subtype.val, ?_, p.map _, ?_⟩
 · rw [List.map_map, List.map_map]
   exact e
 rw [List.pairwise_map]
 exact s.imp fun h g => h (by simpa using (hlt _ _).2 g)
section
variable {α : Type}
end
end Go.Proofs.Ythpfffijnkmdgaa.plain
