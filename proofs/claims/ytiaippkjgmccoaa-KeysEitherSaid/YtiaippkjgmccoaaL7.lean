/- KeysEither: the plain law. -/
import Derived.Test.YtiaippkjgmccoaaLK9
import Derived.Test.YtiaippkjgmccoaaG7
set_option linter.unusedVariables false
set_option maxRecDepth 100000
namespace Go.Proofs.Ytiaippkjgmccoaa
open Go Go.Cl
namespace plain
variable {T : Int} {rs : Rules} {l : List Case}
theorem least {P : Nat → Prop} : ∀ n, (∃ i, i < n ∧ P i) → ∃ i, i < n ∧ P i ∧ ∀ j, j < i → ¬ P j
 | 0, h => by obtain ⟨i, h, _⟩ := h; omega
 | n + 1, h => by
  by_cases c : ∃ i, i < n ∧ P i
  · obtain ⟨i, a, b, d⟩ := least n c
    exact ⟨i, by omega, b, d⟩
  obtain ⟨i, a, b⟩ := h
  have e : i = n := by
   refine Classical.byContradiction fun g => c ⟨i, by omega, b⟩
  exact ⟨i, a, b, fun j hj hp => c ⟨j, by omega, hp⟩⟩
theorem bit_vals : ∀ n : Fin 32, ∀ t : Fin 5, and64 (shr64 ((n.val : Nat) : Int) ((t.val : Nat) : Int)) 1 = if vb ((n.val : Nat) : Int) ((t.val : Nat) : Int) then 1 else 0 := by decide +kernel
theorem bit_val {n t : Int} (n0 : 0 ≤ n) (n1 : n < 32) (t0 : 0 ≤ t) (t1 : t < 5) : and64 (shr64 n t) 1 = if vb n t then 1 else 0 := by
 have := bit_vals ⟨n.toNat, by omega⟩ ⟨t.toNat, by omega⟩
 dsimp only at this
 rwa [Int.toNat_of_nonneg n0, Int.toNat_of_nonneg t0] at this
theorem before_loop {a b : Int} (a0 : 0 ≤ a) (a1 : a < 32) (b0 : 0 ≤ b) (b1 : b < 32) (hT : T ≤ 5) : ∀ (d : Nat) (v : Int), 0 ≤ v → v + d = T →
 ((∀ t, v ≤ t → t < T → vb a t = vb b t) → F44l0 a b T v = some (.inr ())) ∧ (∀ i, v ≤ i → i < T → (∀ t, v ≤ t → t < i → vb a t = vb b t) → vb a i ≠ vb b i → F44l0 a b T v = some (.inl (vb b i))) := by
 intro d
 induction d with
 | zero =>
  intro v h0 hd
  exact ⟨fun _ => by rw [F44l0, if_neg (by simp; omega)], fun i h1 h2 => by omega⟩
 | succ d ih =>
  intro v h0 hd
  obtain ⟨i1, i2⟩ := ih (v + 1) (by omega) (by omega)
  have w1 : w64 (v + 1) = v + 1 := w64_in (by omega) (by omega)
  rw [F44l0, if_pos (by simp; omega), if_pos h0, w1, bit_val a0 a1 h0 (by omega), bit_val b0 b1 h0 (by omega)]
  constructor
  · intro h
    rw [h v (Int.le_refl _) (by omega), if_neg (by simp)]
    exact i1 fun t a b => h t (by omega) b
  intro i h1 h2 h3 h4
  by_cases e : i = v
  · subst e
    rw [if_pos (by cases hx : vb a i <;> cases hy : vb b i <;> simp_all)]
    cases vb b i <;> rfl
  rw [h3 v (Int.le_refl _) (by omega), if_neg (by simp)]
  exact i2 i (by omega) h2 (fun t a b => h3 t (by omega) b) h4
theorem F44_same {a b : Int} (a0 : 0 ≤ a) (a1 : a < 32) (b0 : 0 ≤ b) (b1 : b < 32) (h0 : 0 ≤ T) (hT : T ≤ 5) (h : ∀ t, 0 ≤ t → t < T → vb a t = vb b t) : F44 a b T = some false := by
 unfold F44
 rw [(before_loop a0 a1 b0 b1 hT T.toNat 0 (Int.le_refl _) (by omega)).1 h]
 rfl
theorem F44_diff {a b i : Int} (a0 : 0 ≤ a) (a1 : a < 32) (b0 : 0 ≤ b) (b1 : b < 32) (hT : T ≤ 5) (i0 : 0 ≤ i) (i1 : i < T) (h : ∀ t, 0 ≤ t → t < i → vb a t = vb b t) (hne : vb a i ≠ vb b i) : F44 a b T = some (vb b i) := by
 unfold F44
 rw [(before_loop a0 a1 b0 b1 hT T.toNat 0 (Int.le_refl _) (by omega)).2 i i0 i1 h hne]
 rfl
def SV (T : Int) (rs : Rules) (m : Int) : Prop := ∀ t, 0 ≤ t → t < T → vb m t = fv T rs [] t
def Tru (T : Int) (rs : Rules) (m : Int) : Prop := 0 ≤ m ∧ m < 32 ∧ Sat rs (vb m)
theorem differs (hv : okR T rs) {w : Int} (hw : Tru T rs w) (hn : ¬ SV T rs w) : ∃ i, 0 ≤ i ∧ i < T ∧ (∀ t, 0 ≤ t → t < i → vb w t = fv T rs [] t) ∧ vb w i = true ∧ fv T rs [] i = false := by
 have hex : ∃ i, i < T.toNat ∧ vb w (i : Int) ≠ fv T rs [] (i : Int) := by
  refine Classical.byContradiction fun g => hn fun t a b => Classical.byContradiction fun k => g ⟨t.toNat, by omega, by rw [Int.toNat_of_nonneg a]; exact k⟩
 obtain ⟨i, hi, hp, hl⟩ := least _ hex
 have hj : ∀ j : Nat, j < i → vb w (j : Int) = fv T rs [] (j : Int) := fun j hj => Classical.byContradiction (hl j hj)
 have ht := first_least hv (vb w) hw.2.2 T.toNat 0 [] (fun c hc => by cases hc) i hi (fun j h => by
  rw [Int.zero_add]; have := hj j h; unfold fv at this; rwa [Int.toNat_natCast] at this) (by
  rw [Int.zero_add]; unfold fv at hp; rwa [Int.toNat_natCast] at hp)
 rw [Int.zero_add] at ht
 refine ⟨i, by omega, by omega, fun t a b => ?_, ht, ?_⟩
 · have := hj t.toNat (by omega)
   rwa [Int.toNat_of_nonneg a] at this
 rw [ht] at hp
 cases h : fv T rs [] (i : Int)
 · rfl
 rw [h] at hp; exact absurd rfl hp
theorem keep_first (hv : okR T rs) (h0 : 0 ≤ T) (hT : T ≤ 5) {x m : Int} (hx : Tru T rs x) (hm : Tru T rs m) (hs_ : SV T rs m) : F44 x m T = some false := by
 by_cases h : SV T rs x
 · exact F44_same hx.1 hx.2.1 hm.1 hm.2.1 h0 hT fun t a b => by rw [h t a b, hs_ t a b]
 obtain ⟨i, i0, i1, i2, i3, i4⟩ := differs hv hx h
 rw [F44_diff hx.1 hx.2.1 hm.1 hm.2.1 hT i0 i1 (fun t a b => by rw [i2 t a b, hs_ t a (by omega)]) (by rw [i3, hs_ i i0 i1, i4]; decide), hs_ i i0 i1, i4]
theorem take_first (hv : okR T rs) (hT : T ≤ 5) {x m : Int} (hx : Tru T rs x) (hm : Tru T rs m) (hs_ : SV T rs x) (hn : ¬ SV T rs m) : F44 x m T = some true := by
 obtain ⟨i, i0, i1, i2, i3, i4⟩ := differs hv hm hn
 rw [F44_diff hx.1 hx.2.1 hm.1 hm.2.1 hT i0 i1 (fun t a b => by rw [i2 t a b, hs_ t a (by omega)]) (by rw [i3, hs_ i i0 i1, i4]; decide), i3]
theorem some_bool (hv : okR T rs) (h0 : 0 ≤ T) (hT : T ≤ 5) {x m : Int} (hx : Tru T rs x) (hm : Tru T rs m) : ∃ b, F44 x m T = some b := by
 by_cases h : ∀ t, 0 ≤ t → t < T → vb x t = vb m t
 · exact ⟨_, F44_same hx.1 hx.2.1 hm.1 hm.2.1 h0 hT h⟩
 have hex : ∃ i, i < T.toNat ∧ vb x (i : Int) ≠ vb m (i : Int) := by
  refine Classical.byContradiction fun g => h fun t a b => Classical.byContradiction fun k => g ⟨t.toNat, by omega, by rw [Int.toNat_of_nonneg a]; exact k⟩
 obtain ⟨i, hi, hp, hl⟩ := least _ hex
 exact ⟨_, F44_diff hx.1 hx.2.1 hm.1 hm.2.1 hT (i := i) (by omega) (by omega) (fun t a b => by
  have := Classical.byContradiction (hl t.toNat (by omega))
  rwa [Int.toNat_of_nonneg a] at this) hp⟩
theorem fold_loop {p1 : List (Int × Int)} {r5 : List Bool × Int} {L : List Int} (hv : okR T rs) (h0 : 0 ≤ T) (hT : T ≤ 5) (hL : ∀ x ∈ L, Tru T rs x) (hl : L.length ≤ 1000) : ∀ (d v : Nat) (m : Int), v + d = L.length → ((m = -1 ∧ v = 0) ∨ Tru T rs m) → ((∃ y ∈ L.take v, SV T rs y) → SV T rs m) →
 ∃ r, F7l0 p1 (T, rs) L r5 m v = some r ∧ ((∃ y ∈ L, SV T rs y) → SV T rs r) := by
 intro d
 induction d with
 | zero =>
  intro v m hd hm hs_
  rw [List.take_of_length_le (by omega)] at hs_
  exact ⟨m, by rw [F7l0, if_neg (by simp; omega)], hs_⟩
 | succ d ih =>
  intro v m hd hm hs_
  have hlt : v < L.length := by omega
  have hget : L.getD v 0 = L[v] := by rw [List.getD_eq_getElem?_getD, List.getElem?_eq_getElem hlt]; rfl
  have hx := hL _ (List.getElem_mem hlt)
  have ht : L.take (v + 1) = L.take v ++ [L[v]] := by rw [List.take_add_one, List.getElem?_eq_getElem hlt]; rfl
  rw [F7l0, if_pos (by simp; omega), if_pos ⟨by omega, by omega⟩, w64_up (by omega)]
  simp only [Option.bind_eq_bind, Option.bind_some, show ((v : Int)).toNat = v from rfl, hget]
  rcases hm with ⟨rfl, rfl⟩ | hm
  · rw [if_pos (by decide)]
    simp only [Option.bind_some, if_true]
    refine ih 1 L[0] (by omega) (.inr hx) fun ⟨y, hy, h⟩ => ?_
    rw [show L.take 1 = L.take 0 ++ [L[0]] from ht] at hy
    simp at hy
    rw [← hy]; exact h
  rw [if_neg (by simp; exact hm.1)]
  by_cases hsm : SV T rs m
  · rw [keep_first hv h0 hT hx hm hsm]
    simp only [Option.bind_some, Bool.false_eq_true, if_false]
    exact ih (v + 1) m (by omega) (.inr hm) fun _ => hsm
  by_cases hsx : SV T rs L[v]
  · rw [take_first hv hT hx hm hsx hsm]
    simp only [Option.bind_some, if_true]
    exact ih (v + 1) L[v] (by omega) (.inr hx) fun _ => hsx
  obtain ⟨b, hb⟩ := some_bool hv h0 hT hx hm
  rw [hb]
  have no : ¬ ∃ y ∈ L.take (v + 1), SV T rs y := fun ⟨y, hy, h⟩ => by
   rw [ht] at hy
   rcases List.mem_append.1 hy with k | k
   · exact hsm (hs_ ⟨y, k, h⟩)
   rw [List.mem_singleton.1 k] at h; exact hsx h
  cases b
  · simp only [Option.bind_some, Bool.false_eq_true, if_false]
    exact ih (v + 1) m (by omega) (.inr hm) fun h => absurd h no
  simp only [Option.bind_some, if_true]
  exact ih (v + 1) L[v] (by omega) (.inr hx) fun h => absurd h no
theorem cmp_loop {p1 : List (Int × Int)} {r5 : List Bool × Int} {m : Int} (hq : (r5.1.length : Int) = T) (hT : T ≤ 5) (hh : ∀ t, 0 ≤ t → t < T → vb m t = r5.1.getD t.toNat false) : ∀ (d v : Nat), v + d = r5.1.length → F7l1 p1 (T, rs) r5 m v = some (.inr ()) := by
 intro d
 induction d with
 | zero => intro v hd; rw [F7l1, if_neg (by simp; omega)]
 | succ d ih =>
  intro v hd
  rw [F7l1, if_pos (by simp; omega), if_pos ⟨by omega, by omega⟩, w64_up (by omega)]
  simp only [Option.bind_eq_bind, Option.bind_some]
  rw [if_pos (by omega)]
  have := hh v (by omega) (by omega)
  unfold vb at this
  rw [this, if_neg (by simp)]
  exact ih (v + 1) (by omega)
theorem ver_in (h : ver T rs l = 0) : ∀ c ∈ l, okC T c := by
 unfold ver at h
 split at h
 · exact absurd h (by assumption)
 split at h
 · exact absurd h (by decide)
 split at h
 · exact absurd h (by decide)
 split at h
 · exact absurd h (by decide)
 rename_i k
 exact inC_iff.1 (by simpa using k)
theorem sat_range {v w : Int → Bool} (hv : okR T rs) (h : ∀ t, 0 ≤ t → t < T → v t = w t) (hs_ : Sat rs w) : Sat rs v := fun r hr => by
 obtain ⟨oa, ob⟩ := hv r hr
 rcases hs_ r hr with g | g
 · left; unfold so at *; rw [h _ oa.1 oa.2]; exact g
 right; unfold so at *; rw [h _ ob.1 ob.2]; exact g
end plain
open plain in
theorem plain (p0 : Int) (p1 : List (Int × Int)) (wp0 : (Lit.int .u8 p0).wf = true) (wp1 : ∀ x ∈ p1, (Lit.int .u8 x.1).wf = true ∧ (Lit.int .u8 x.2).wf = true) : F7 p0 p1 = some true := by
 obtain ⟨T, rs, f40, t1, t2, hv, hr⟩ := made (p1 := p1) (b8_of wp0) (fun x hx => ⟨b8_of (wp1 x hx).1, b8_of (wp1 x hx).2⟩)
 have hc := chk_made t1 t2 hv hr
 have q : rs.length ≤ 1000 := by omega
 have hA : Agrees rs [] := agrees_iff.2 fun x hx => by cases hx
 have e2 : chk2 T rs [] = 0 := by
  unfold chk2
  rw [if_neg (by simp [hc]), if_neg (by simp), if_pos (inC_iff.2 fun c hc => by cases hc)]
 obtain ⟨a, b, e, f32, f33, hne, he0⟩ := clash_eq (T := T) q
 rw [F33_eq q, if_neg (by simp [hc])] at f33
 have f33 := Option.some.inj f33
 unfold F7
 rw [f40]
 simp only [Option.bind_eq_bind, Option.bind_some]
 rw [F41_eq hv t1 t2 q (fun c hc => by cases hc) (by simp), F18_eq q (by simp), f32]
 simp only [Option.bind_some]
 cases hw : wr rs
 · rw [hw] at f33
   have he : e = 6 := f33.symm
   subst he
   obtain ⟨rfl, rfl⟩ := hne (by decide)
   have hnw : ¬ Wrong rs := fun g => by rw [wr_iff.2 g] at hw; cases hw
   have er : err T rs [] = 0 := by
    unfold err
    rw [if_neg (by simp [e2]), if_pos ⟨hw, ag_iff.2 hA⟩]
   obtain ⟨s1, _⟩ := first_true hv hnw hA (fun c hc => by cases hc)
   obtain ⟨n, n1, n2⟩ := bits_for t1 t2 (fv T rs [])
   have hsn : Sat rs (vb (n : Int)) := sat_range hv n2 s1
   obtain ⟨_, hb⟩ := shl_small t1 t2
   have hpow : 2 ^ T.toNat ≤ 32 := by
    rcases (by omega : T = 1 ∨ T = 2 ∨ T = 3 ∨ T = 4 ∨ T = 5) with rfl | rfl | rfl | rfl | rfl <;> decide
   have hmem : (n : Int) ∈ ((List.range (2 ^ T.toNat)).map fun i : Nat => (i : Int)).filter (good rs []) :=
    List.mem_filter.2 ⟨List.mem_map.2 ⟨n, List.mem_range.2 n1, rfl⟩, good_iff.2 ⟨hsn, fun c hc => by cases hc⟩⟩
   have hL : ∀ x ∈ ((List.range (2 ^ T.toNat)).map fun i : Nat => (i : Int)).filter (good rs []), Tru T rs x := fun x hx => by
    obtain ⟨h1, h2⟩ := List.mem_filter.1 hx
    obtain ⟨i, hi, rfl⟩ := List.mem_map.1 h1
    rw [List.mem_range] at hi
    exact ⟨by omega, by omega, (good_iff.1 h2).1⟩
   have hlen' : (((List.range (2 ^ T.toNat)).map fun i : Nat => (i : Int)).filter (good rs [])).length ≤ 1000 := by
    refine Nat.le_trans (List.length_filter_le _ _) ?_
    rw [List.length_map, List.length_range]; omega
   generalize ((List.range (2 ^ T.toNat)).map fun i : Nat => (i : Int)).filter (good rs []) = L at *
   have hL0 : L ≠ [] := fun g => by rw [g] at hmem; cases hmem
   have hlen : ((first rs T.toNat 0 []).length : Int) = T := by rw [len_first]; omega
   rw [er, if_neg (by simpa using hL0)]
   obtain ⟨r, fr, hr2⟩ := fold_loop (p1 := p1) (r5 := (first rs T.toNat 0 [], 0)) hv (by omega) t2 hL hlen' L.length 0 (-1) (by omega) (.inl ⟨rfl, rfl⟩) (fun ⟨y, hy, _⟩ => by simp at hy)
   have fr' : F7l0 p1 (T, rs) L (first rs T.toNat 0 [], 0) (-1) 0 = some r := fr
   have hsv := hr2 ⟨n, hmem, n2⟩
   have fc : F7l1 p1 (T, rs) (first rs T.toNat 0 [], 0) r 0 = some (.inr ()) := cmp_loop (r5 := (first rs T.toNat 0 [], 0)) hlen t2 (fun t a b => hsv t a b) (first rs T.toNat 0 []).length 0 (Nat.zero_add _)
   have w0 : decide (w64 ((([] : List Case).length : Int) + (([] : List Case).length : Int)) > 0) = false := by decide
   simp only [if_true, bne_self_eq_false, Bool.false_eq_true, if_false, w0, hlen, Option.bind_some]
   rw [fr']
   simp only [Option.bind_some]
   rw [fc]
   simp only [Option.bind_some]
   rw [F22_sat hc hlen (fun r hr => (s1 r hr).imp hb_first.2 hb_first.2)]
   rfl
 rw [hw] at f33
 have he : e = 0 := f33.symm
 subst he
 obtain ⟨f35, la, lb⟩ := he0 rfl
 have f34 : F34 T rs a b = some 0 := (proves_eq q la lb).1.trans f35
 have hW : Wrong rs := wr_iff.1 hw
 have er : err T rs [] = 13 := by
  unfold err
  rw [if_neg (by simp [e2]), if_neg (by simp [hw])]
 have hn0 : ((List.range (2 ^ T.toNat)).map fun i : Nat => (i : Int)).filter (good rs []) = [] := by
  rw [List.filter_eq_nil_iff]
  intro v _ hg
  exact (good_iff.1 hg).1.not_wrong hW
 have hver : ver T rs a = 0 ∧ ver T rs b = 0 := Classical.byContradiction fun h => by
  obtain ⟨e, g1, g2⟩ := F34_bad q la lb h
  rw [f34] at g1
  exact g2 (Option.some.inj g1).symm
 obtain ⟨h1, h2⟩ := hver
 obtain ⟨a1, a2⟩ := ver_ok h1
 obtain ⟨b1, b2⟩ := ver_ok h2
 have hcl : Closes a b = true := by
  have := F34_val q la lb h1 h2
  rw [f34] at this
  cases hk : Closes a b
  · rw [hk] at this; cases this
  rfl
 unfold Closes at hcl
 simp only [Bool.and_eq_true, decide_eq_true_eq] at hcl
 obtain ⟨k1, k2, k3⟩ := hcl
 have wa : w64 ((a.length : Int) - 1) = ((a.length - 1 : Nat) : Int) := by rw [w64_in (by omega) (by omega)]; omega
 have wb : w64 ((b.length : Int) - 1) = ((b.length - 1 : Nat) : Int) := by rw [w64_in (by omega) (by omega)]; omega
 have c1 : (0 : Int) ≤ 0 ∧ (0 : Int) < (a.length : Int) := ⟨by omega, by omega⟩
 have c2 : (0 : Int) ≤ ((a.length - 1 : Nat) : Int) ∧ ((a.length - 1 : Nat) : Int) < (a.length : Int) := ⟨by omega, by omega⟩
 have c3 : (0 : Int) ≤ 0 ∧ (0 : Int) < (b.length : Int) := ⟨by omega, by omega⟩
 have c4 : (0 : Int) ≤ ((b.length - 1 : Nat) : Int) ∧ ((b.length - 1 : Nat) : Int) < (b.length : Int) := ⟨by omega, by omega⟩
 rw [hn0, er, F42_eq hc q a2 (ver_in h1), F42_eq hc q b2 (ver_in h2), f34, decide_eq_true h1, decide_eq_true h2]
 simp only [List.length_nil, Option.bind_some, Bool.not_true, Bool.false_eq_true, if_false, if_neg (show ¬ (13 : Int) = 0 by decide), bne_self_eq_false]
 rw [wa, wb, if_pos c1, if_pos c2, if_pos c3, if_pos c4, F43_eq]
 simp only [Option.bind_some, eq_code]
 rw [show a.getD (Int.toNat 0) (0, false) = at_ a 0 from rfl, show a.getD (Int.toNat ((a.length - 1 : Nat) : Int)) (0, false) = at_ a (a.length - 1) from rfl, show b.getD (Int.toNat 0) (0, false) = at_ b 0 from rfl, show b.getD (Int.toNat ((b.length - 1 : Nat) : Int)) (0, false) = at_ b (b.length - 1) from rfl, decide_eq_true k1, decide_eq_true k2, decide_eq_true k3]
 rfl
end Go.Proofs.Ytiaippkjgmccoaa
