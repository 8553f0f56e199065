/- KeysCertain: the plain law. -/
import Derived.Test.YtiaippkjgmccoaaLKd
import Derived.Test.YtiaippkjgmccoaaG9
set_option linter.unusedVariables false
set_option maxRecDepth 100000
namespace Go.Proofs.Ytiaippkjgmccoaa.plain
open Go Go.Cl
section
variable {T : Int} {rs : Rules} {l : List Case} {x y : Case}
theorem list_loop9 {p1 : List (Int × Int)} {p2 : List Int} (h0 : 1 ≤ T) (hT : T ≤ 24) (hp : ∀ x ∈ p2, B8 x) : ∀ (d v : Nat) (out : List Case), v + d = 4 → out.length ≤ v → (∀ c ∈ out, okC T c) → ∃ l, F9l0 p1 p2 (T, rs) out v = some l ∧ l.length ≤ 4 ∧ ∀ c ∈ l, okC T c := by
 intro d
 induction d with
 | zero =>
  intro v out hd hl ho
  refine ⟨out, ?_, by omega, ho⟩
  rw [F9l0, decide_eq_false (show ¬ (v : Int) < 4 by omega)]
  by_cases c : (v : Int) < (p2.length : Int)
  · rw [decide_eq_true c]; rfl
  rw [decide_eq_false c]; rfl
 | succ d ih =>
  intro v out hd hl ho
  rw [F9l0]
  by_cases c : (v : Int) < (p2.length : Int)
  · have hlt : v < p2.length := by omega
    have hget : p2.getD v 0 = p2[v] := by rw [List.getD_eq_getElem?_getD, List.getElem?_eq_getElem hlt]; rfl
    obtain ⟨c1, f1, o1⟩ := F45_eq (T := T) (rs := rs) h0 hT (hp _ (List.getElem_mem hlt))
    obtain ⟨l, f, a, b⟩ := ih (v + 1) (out ++ [c1]) (by omega) (by simp; omega) (fun r hr => by
     rcases List.mem_append.1 hr with h | h
     · exact ho r h
     rw [List.mem_singleton.1 h]; exact o1)
    refine ⟨l, ?_, a, b⟩
    rw [decide_eq_true c, decide_eq_true (show (v : Int) < 4 by omega)]
    simp only [Option.bind_eq_bind, Option.bind_some, if_true]
    rw [if_pos ⟨by omega, c⟩]
    simp only [Option.bind_some, Int.toNat_natCast, hget]
    rw [f1]
    simp only [Option.bind_some]
    rw [if_pos (by omega), w64_up (by omega)]
    exact f
  exact ⟨out, by rw [decide_eq_false c]; rfl, by omega, ho⟩
def tru (T : Int) (rs : Rules) (l : List Case) : List Int := ((List.range (2 ^ T.toNat)).map fun i : Nat => (i : Int)).filter (good rs l)
theorem hb_bits {s : Nat} (hs_ : s < 2 ^ 62) (hT : T ≤ 14) {c : Case} (hc : okC T c) : hb (bt T.toNat s) c = hs (vb s) c := by
 have h0 := hc.1; have h1 := hc.2
 have e : vb (s : Int) c.1 = (s / 2 ^ c.1.toNat % 2 == 1) := by
  have := vb_nat (t := c.1.toNat) hs_ (by omega)
  rwa [show ((c.1.toNat : Nat) : Int) = c.1 by omega] at this
 unfold hb hs
 rw [bt_get _ _ _ (by omega), e]
theorem gl_good (hv : okR T rs) (ho : ∀ c ∈ l, okC T c) {s : Nat} (hs_ : s < 2 ^ 62) (hT : T ≤ 14) : gl rs l (bt T.toNat s) = good rs l s := by
 unfold gl good
 rw [Bool.eq_iff_iff]
 simp only [Bool.and_eq_true, List.all_eq_true]
 constructor
 · rintro ⟨a, b⟩
   exact ⟨fun r hr => by rw [← hb_bits hs_ hT (hv r hr).1, ← hb_bits hs_ hT (hv r hr).2]; exact a r hr, fun c hc => by rw [← hb_bits hs_ hT (ho c hc)]; exact b c hc⟩
 rintro ⟨a, b⟩
 exact ⟨fun r hr => by rw [hb_bits hs_ hT (hv r hr).1, hb_bits hs_ hT (hv r hr).2]; exact a r hr, fun c hc => by rw [hb_bits hs_ hT (ho c hc)]; exact b c hc⟩
theorem sumf_filter (f : Nat → Bool) (g : Int → Bool) : ∀ (d v : Nat), (∀ s, s < v + d → f s = g s) → sumf f d v = (((List.range d).map fun i : Nat => ((v + i : Nat) : Int)).filter g).length := by
 intro d
 induction d with
 | zero => intro v h; rfl
 | succ d ih =>
  intro v h
  have hr : (List.range (d + 1)).map (fun i : Nat => ((v + i : Nat) : Int)) = (v : Int) :: (List.range d).map (fun i : Nat => ((v + 1 + i : Nat) : Int)) := by
   rw [List.range_succ_eq_map, List.map_cons, List.map_map]
   congr 1
   refine List.map_congr_left fun i _ => ?_
   simp only [Function.comp]
   omega
  rw [sumf, hr, List.filter_cons, h v (by omega), ih (v + 1) (fun s hs_ => h s (by omega))]
  cases g v
  · simp
  simp only [if_true, List.length_cons]; omega
theorem count_tru (hv : okR T rs) (ho : ∀ c ∈ l, okC T c) (h0 : 1 ≤ T) (hT : T ≤ 5) : cl rs l T.toNat [] = (tru T rs l).length := by
 have p : 2 ^ T.toNat ≤ 2 ^ 5 := Nat.pow_le_pow_right (by decide) (by omega)
 have p5 : (2 : Nat) ^ 5 = 32 := by decide
 rw [cl_sum, sumf_filter _ (good rs l) _ _ (fun s hs_ => by
  rw [List.nil_append]
  exact gl_good hv ho (by have : (32 : Nat) < 2 ^ 62 := by decide
                          omega) (by omega))]
 unfold tru
 simp
theorem and_nat {s t : Nat} (hs : s < 2 ^ 62) (ht : t ≤ 64) : and64 (shr64 (s : Int) (t : Int)) 1 = if vb s t then 1 else 0 := by
 have h := vb_nat hs ht
 unfold vb shr64 and64 at h ⊢
 have e1 : min ((t : Int)).toNat 64 = t := by rw [Int.toNat_natCast]; exact Nat.min_eq_left ht
 have e2 : Int.fdiv (s : Int) (2 ^ t) = ((s / 2 ^ t : Nat) : Int) := by
  rw [Int.fdiv_eq_ediv_of_nonneg _ (by exact Int.le_of_lt (Int.pow_pos (by decide)))]
  rw [Int.natCast_ediv, Int.natCast_pow]
  rfl
 rw [e1, e2] at h ⊢
 have hle : s / 2 ^ t < 2 ^ 62 := Nat.lt_of_le_of_lt (Nat.div_le_self _ _) hs
 generalize s / 2 ^ t = a at hle h ⊢
 have e3 : (BitVec.ofInt 64 (a : Int) &&& BitVec.ofInt 64 1).toNat = a % 2 := by
  rw [BitVec.toNat_and, BitVec.ofInt_natCast, BitVec.toNat_ofNat, show (BitVec.ofInt 64 1).toNat = 1 from rfl, Nat.and_one_is_mod]
  omega
 rw [e3, w64_in (by omega) (by omega)]
 rcases (by omega : a % 2 = 0 ∨ a % 2 = 1) with h | h <;> rw [h] <;> rfl
def yes (t : Int) (R : List Int) : Nat := (R.filter fun bits => vb bits t).length
theorem yes_loop {p1 : List (Int × Int)} {p2 : List Int} {o : Int} {r1 : Int × Rules} {r32 : List Case} {R : List Int} {r36 : List Int × Int} {t : Nat} (hR : R.length ≤ 1000) (ht : t ≤ 64) (hr : ∀ b ∈ R, ∃ s : Nat, b = (s : Int) ∧ s < 2 ^ 62) : ∀ (d v n : Nat), v + d = R.length → n ≤ v → F9l2 p1 p2 o r1 r32 R r36 t n v = some ((n + yes t (R.drop v) : Nat) : Int) := by
 intro d
 induction d with
 | zero => intro v n hd hn; rw [F9l2, if_neg (by simp; omega), List.drop_eq_nil_of_le (by omega)]; rfl
 | succ d ih =>
  intro v n hd hn
  have hlt : v < R.length := by omega
  have hdr : R.drop v = R[v] :: R.drop (v + 1) := List.drop_eq_getElem_cons hlt
  obtain ⟨s, es, hs_⟩ := hr _ (List.getElem_mem hlt)
  rw [F9l2, if_pos (by simp; omega), if_pos ⟨by omega, by omega⟩, w64_up (by omega)]
  simp only [Option.bind_eq_bind, Option.bind_some, show ((v : Int)).toNat = v from rfl, cons_get _ hlt]
  rw [if_pos (by omega), es, and_nat hs_ ht, hdr, es]
  unfold yes
  rw [List.filter_cons]
  cases vb (s : Int) (t : Int)
  · simp only [Bool.false_eq_true, if_false, Int.add_zero]
    rw [w64_in (by omega) (by omega)]
    exact ih (v + 1) n (by omega) (by omega)
  simp only [if_true]
  rw [w64_up (by omega), ih (v + 1) (n + 1) (by omega) (by omega)]
  unfold yes
  rw [List.length_cons]
  congr 2
  omega
theorem ag_tru (hv : okR T rs) (hw : ¬ Wrong rs) (ho : ∀ c ∈ l, okC T c) (h0 : 1 ≤ T) (hT : T ≤ 5) {c : Case} (hc : okC T c) : ag rs (l ++ [c]) = true ↔ ∃ b ∈ tru T rs l, so (vb b) c := by
 have ho' : ∀ y ∈ l ++ [c], okC T y := fun y hy => by
  rcases List.mem_append.1 hy with h | h
  · exact ho y h
  rw [List.mem_singleton.1 h]; exact hc
 rw [ag_iff]
 constructor
 · intro hA
   obtain ⟨s1, s2⟩ := first_true hv hw hA ho'
   obtain ⟨n, hn, hb_⟩ := bits_for h0 hT (fv T rs (l ++ [c]))
   have tr : ∀ c' : Case, okC T c' → (so (vb n) c' ↔ so (fv T rs (l ++ [c])) c') := fun c' hc' => by unfold so; rw [hb_ c'.1 hc'.1 hc'.2]
   refine ⟨(n : Int), List.mem_filter.2 ⟨List.mem_map.2 ⟨n, List.mem_range.2 hn, rfl⟩, good_iff.2 ⟨fun r hr => ?_, fun y hy => ?_⟩⟩, ?_⟩
   · obtain ⟨o1, o2⟩ := hv r hr
     rw [tr _ o1, tr _ o2]
     exact s1 r hr
   · rw [tr _ (ho y hy)]; exact s2 y (List.mem_append_left _ hy)
   rw [tr _ hc]; exact s2 c (List.mem_append_right _ (List.mem_singleton.2 rfl))
 rintro ⟨b, hb_, h⟩
 obtain ⟨_, hg⟩ := List.mem_filter.1 hb_
 obtain ⟨s1, s2⟩ := good_iff.1 hg
 exact s1.agrees (fun y hy => by
  rcases List.mem_append.1 hy with g | g
  · exact s2 y g
  rw [List.mem_singleton.1 g]; exact h)
theorem tru_none (hv : okR T rs) (ho : ∀ c ∈ l, okC T c) (h0 : 1 ≤ T) (hT : T ≤ 5) : tru T rs l ≠ [] ↔ wr rs = false ∧ ag rs l = true := by
 constructor
 · intro h
   obtain ⟨b, hb_⟩ := List.exists_mem_of_ne_nil _ h
   obtain ⟨_, hg⟩ := List.mem_filter.1 hb_
   obtain ⟨s1, s2⟩ := good_iff.1 hg
   refine ⟨?_, ag_iff.2 (s1.agrees s2)⟩
   cases e : wr rs
   · rfl
   exact absurd (wr_iff.1 e) s1.not_wrong
 rintro ⟨a, b⟩ h
 have hw : ¬ Wrong rs := fun g => by rw [wr_iff.2 g] at a; cases a
 obtain ⟨s1, s2⟩ := first_true hv hw (ag_iff.1 b) ho
 obtain ⟨n, hn, hb_⟩ := bits_for h0 hT (fv T rs l)
 have tr : ∀ c' : Case, okC T c' → (so (vb n) c' ↔ so (fv T rs l) c') := fun c' hc' => by unfold so; rw [hb_ c'.1 hc'.1 hc'.2]
 have : (n : Int) ∈ tru T rs l := List.mem_filter.2 ⟨List.mem_map.2 ⟨n, List.mem_range.2 hn, rfl⟩, good_iff.2 ⟨fun r hr => by
  obtain ⟨o1, o2⟩ := hv r hr
  rw [tr _ o1, tr _ o2]
  exact s1 r hr, fun y hy => by rw [tr _ (ho y hy)]; exact s2 y hy⟩⟩
 rw [h] at this
 cases this
theorem yes_all (t : Int) : ∀ (R : List Int), (yes t R ≤ R.length) ∧ (yes t R = R.length ↔ ¬ ∃ b ∈ R, so (vb b) (t, false)) ∧ (yes t R = 0 ↔ ¬ ∃ b ∈ R, so (vb b) (t, true)) := by
 intro R
 induction R with
 | nil => refine ⟨Nat.le_refl _, ?_, ?_⟩ <;> simp [yes]
 | cons a R ih =>
  obtain ⟨i1, i2, i3⟩ := ih
  unfold yes at i1 i2 i3 ⊢
  rw [List.filter_cons]
  have s1 : so (vb a) (t, false) ↔ vb a t = false := Iff.rfl
  have s2 : so (vb a) (t, true) ↔ vb a t = true := Iff.rfl
  cases e : vb a t
  · simp only [Bool.false_eq_true, if_false, List.length_cons]
    refine ⟨by omega, ⟨fun h => by omega, fun h => absurd ⟨a, List.mem_cons_self, s1.2 e⟩ h⟩, i3.trans ⟨fun h => ?_, fun h => ?_⟩⟩
    · rintro ⟨b, hb_, g⟩
      rcases List.mem_cons.1 hb_ with rfl | hb_
      · rw [s2, e] at g; cases g
      exact h ⟨b, hb_, g⟩
    rintro ⟨b, hb_, g⟩; exact h ⟨b, List.mem_cons_of_mem _ hb_, g⟩
  simp only [if_true, List.length_cons]
  refine ⟨by omega, ⟨fun h => ?_, fun h => ?_⟩, ⟨fun h => by omega, fun h => absurd ⟨a, List.mem_cons_self, s2.2 e⟩ h⟩⟩
  · have := i2.1 (by omega)
    rintro ⟨b, hb_, g⟩
    rcases List.mem_cons.1 hb_ with rfl | hb_
    · rw [s1, e] at g; cases g
    exact this ⟨b, hb_, g⟩
  have := i2.2 (by rintro ⟨b, hb_, g⟩; exact h ⟨b, List.mem_cons_of_mem _ hb_, g⟩)
  omega
theorem cert_at9 (rs : Rules) (l : List Case) : ∀ (d i : Nat) (t : Int), i < d → (cert rs l d t).getD i 0 = if ag rs (l ++ [(t + i, true)]) then if ag rs (l ++ [(t + i, false)]) then 2 else 1 else 0 := by
 intro d
 induction d with
 | zero => intro i t h; omega
 | succ d ih =>
  intro i t h
  rw [cert]
  cases i with
  | zero => simp
  | succ i =>
   rw [List.getD_cons_succ, ih i (t + 1) (by omega), show t + 1 + (i : Int) = t + ((i + 1 : Nat) : Int) by push_cast; omega]
theorem things_loop {p1 : List (Int × Int)} {p2 : List Int} {e : Int} (hv : okR T rs) (hrs : rs.length ≤ 80) (ho : ∀ c ∈ l, okC T c) (hl : l.length ≤ 24) (h0 : 1 ≤ T) (hT : T ≤ 5) (hne : tru T rs l ≠ []) : ∀ (d v : Nat), v + d = T.toNat → F9l1 p1 p2 (T, rs) l (tru T rs l) (cert rs l T.toNat 0, e) v = some (.inr ()) := by
 obtain ⟨hw0, ha0⟩ := (tru_none hv ho h0 hT).1 hne
 have hw : ¬ Wrong rs := fun g => by rw [wr_iff.2 g] at hw0; cases hw0
 have lc := len_cert rs l T.toNat 0
 have p : 2 ^ T.toNat ≤ 2 ^ 5 := Nat.pow_le_pow_right (by decide) (by omega)
 have p5 : (2 : Nat) ^ 5 = 32 := by decide
 have hR : (tru T rs l).length ≤ 1000 := by
  have h1 := List.length_filter_le (good rs l) ((List.range (2 ^ T.toNat)).map fun i : Nat => (i : Int))
  rw [List.length_map, List.length_range] at h1
  unfold tru
  omega
 have hr : ∀ b ∈ tru T rs l, ∃ s : Nat, b = (s : Int) ∧ s < 2 ^ 62 := fun b hb_ => by
  obtain ⟨h1, _⟩ := List.mem_filter.1 hb_
  obtain ⟨s, hs_, es⟩ := List.mem_map.1 h1
  rw [List.mem_range] at hs_
  exact ⟨s, es.symm, by have : (32 : Nat) < 2 ^ 62 := by decide
                        omega⟩
 intro d
 induction d with
 | zero => intro v hd; rw [F9l1, if_neg (by simp; omega)]
 | succ d ih =>
  intro v hd
  have o0 : okC T ((v : Int), false) := ⟨by dsimp only; omega, by dsimp only; omega⟩
  have o1 : okC T ((v : Int), true) := ⟨by dsimp only; omega, by dsimp only; omega⟩
  have f : F9l2 p1 p2 ((cert rs l T.toNat 0).getD v 0) (T, rs) l (tru T rs l) (cert rs l T.toNat 0, e) v 0 0 = some ((0 + yes v ((tru T rs l).drop 0) : Nat) : Int) := yes_loop hR (by omega) hr _ 0 0 (by rw [Nat.zero_add]) (Nat.le_refl _)
  rw [List.drop_zero, Nat.zero_add] at f
  rw [F9l1, if_pos (by simp; omega), if_pos ⟨by omega, by dsimp only; omega⟩, w64_up (by omega)]
  simp only [Option.bind_eq_bind, Option.bind_some, show ((v : Int)).toNat = v from rfl]
  rw [f]
  simp only [Option.bind_some]
  obtain ⟨y1, y2, y3⟩ := yes_all v (tru T rs l)
  have a0 := ag_tru hv hw ho h0 hT o0
  have a1 := ag_tru hv hw ho h0 hT o1
  have hl0 : (tru T rs l).length ≠ 0 := fun h => hne (List.length_eq_zero_iff.1 h)
  have hcv := cert_at9 rs l T.toNat v 0 (by omega)
  rw [Int.zero_add] at hcv
  generalize hY : yes (v : Int) (tru T rs l) = Y at y1 y2 y3 ⊢
  generalize hL : (tru T rs l).length = L at y1 y2 hl0 ⊢
  have want : (((if ((Y : Int) == (L : Int)) = true then some 1 else (if ((Y : Int) == 0) = true then some 0 else some 2).bind fun m184 => some m184) : Option Int)) = some ((cert rs l T.toNat 0).getD v 0) := by
   rw [hcv]
   cases e0 : ag rs (l ++ [((v : Int), false)])
   · have n0 : ¬ ∃ b ∈ tru T rs l, so (vb b) ((v : Int), false) := fun g => by rw [a0.2 g] at e0; cases e0
     have hYL := y2.2 n0
     have t1 : ag rs (l ++ [((v : Int), true)]) = true := a1.2 (Classical.byContradiction fun g => by have := y3.2 g; omega)
     rw [t1, if_pos (by rw [hYL]; simp)]
     rfl
   have n0 := a0.1 e0
   have hYL : Y ≠ L := fun g => y2.1 g n0
   rw [if_neg (by simp; omega)]
   cases e1 : ag rs (l ++ [((v : Int), true)])
   · have := y3.2 (fun g => by rw [a1.2 g] at e1; cases e1)
     rw [this]; rfl
   have := a1.1 e1
   have hY0 : Y ≠ 0 := fun g => y3.1 g this
   rw [if_neg (by simp; omega)]
   rfl
  rw [want]
  simp only [Option.bind_some, bne_self_eq_false, Bool.false_eq_true, if_false]
  have fr : ((if ((l.length : Int) == 0) = true then (F46 T rs v false v true).bind fun r176 => some (!((decide (r176 > 0)) == ((cert rs l T.toNat 0).getD v 0 == 1))) else some false) : Option Bool) = some false := by
   by_cases h0' : l.length = 0
   · have hl0' : l = [] := List.length_eq_zero_iff.1 h0'
     rw [if_pos (by simp [h0'])]
     obtain ⟨m, D, _, F⟩ := reach_ok (T0 := []) (l := [((v : Int), false)]) hv (by omega) (by omega) (by simp) (fun c hc => by rw [List.mem_singleton.1 hc]; exact o0)
     obtain ⟨fy, fn⟩ := F46_eq hv h0 (by omega) hrs o0 F ((v : Int), true)
     have hA : ag rs [((v : Int), false)] = true ↔ ¬ met m ((v : Int), true) := by
      rw [ag_iff, agrees_iff, F.from_, from_one]
      constructor
      · intro h g; exact h _ (List.mem_singleton.2 rfl) _ (List.mem_singleton.2 rfl) g
      intro h x hx y hy g
      rw [List.mem_singleton.1 hx, List.mem_singleton.1 hy] at g
      exact h g
     rw [hcv, hl0', List.nil_append, List.nil_append]
     by_cases hm : met m ((v : Int), true)
     · have e0 : ag rs [((v : Int), false)] = false := by
        cases e : ag rs [((v : Int), false)]
        · rfl
        exact absurd hm (hA.1 e)
       have e1 : ag rs [((v : Int), true)] = true := by
        have h0 : Agrees rs [] := agrees_iff.2 (fun x hx => by cases hx)
        have hn : ¬ Agrees rs ([] ++ [(((v : Int), false) : Case)]) := fun g => by rw [List.nil_append] at g; rw [ag_iff.2 g] at e0; cases e0
        exact ag_iff.2 (extend hw h0 hn)
       rw [fy hm, e0, e1]
       have : (D ((v : Int), true) : Int) + 1 > 0 := by omega
       rw [Option.bind_some, decide_eq_true this]
       rfl
     rw [fn hm, hA.2 hm]
     cases ag rs [((v : Int), true)] <;> rfl
   rw [if_neg (by simpa using h0')]
  rw [fr]
  simp only [Option.bind_some, Bool.false_eq_true, if_false]
  exact ih (v + 1) (by omega)
end
end Go.Proofs.Ytiaippkjgmccoaa.plain
namespace Go.Proofs.Ytiaippkjgmccoaa
open Go Go.Cl plain
theorem plain (p0 : Int) (p1 : List (Int × Int)) (p2 : List Int) (wp0 : (Lit.int .u8 p0).wf = true) (wp1 : ∀ x ∈ p1, (Lit.int .u8 x.1).wf = true ∧ (Lit.int .u8 x.2).wf = true) (wp2 : ∀ x ∈ p2, (Lit.int .u8 x).wf = true) : F9 p0 p1 p2 = some true := by
 obtain ⟨T, rs, f40, t1, t2, hv, hr⟩ := made (p1 := p1) (b8_of wp0) (fun x hx => ⟨b8_of (wp1 x hx).1, b8_of (wp1 x hx).2⟩)
 have hc := chk_made t1 t2 hv hr
 have q : rs.length ≤ 1000 := by omega
 obtain ⟨l, fl_, ll, lo⟩ := list_loop9 (T := T) (rs := rs) (p1 := p1) (p2 := p2) t1 (by omega) (fun x hx => b8_of (wp2 x hx)) 4 0 [] rfl (Nat.zero_le _) (fun c hc => by cases hc)
 have fl' : F9l0 p1 p2 (T, rs) [] 0 = some l := fl_
 have hce : cerr T rs l = 0 := by rw [cerr_ok hc, if_neg (by omega), if_pos (inC_iff.2 lo), if_neg (by omega)]
 have hc2 : chk2 T rs l = 0 := by
  unfold chk2
  rw [if_neg (by simpa using hc), if_neg (by omega), if_pos (inC_iff.2 lo)]
 have ct := count_tru hv lo t1 t2
 unfold F9
 rw [f40]
 simp only [Option.bind_eq_bind, Option.bind_some]
 rw [fl']
 simp only [Option.bind_some]
 rw [F41_eq hv t1 t2 q lo (by omega), F20_eq q (by omega), F38_eq q (by omega), hce, ct]
 simp only [Option.bind_some, if_true, bne_self_eq_false, Bool.false_eq_true, if_false]
 rw [show ((List.range (2 ^ T.toNat)).map fun i : Nat => (i : Int)).filter (good rs l) = tru T rs l from rfl]
 simp only [bne_self_eq_false, Bool.false_eq_true, if_false]
 by_cases hne : tru T rs l = []
 · have he : err T rs l = 13 := by
    unfold err
    rw [if_neg (by simpa using hc2), if_neg (fun g => (tru_none hv lo t1 t2).2 g hne)]
   rw [he, hne]
   rfl
 have he : err T rs l = 0 := by
  unfold err
  rw [if_neg (by simpa using hc2), if_pos ((tru_none hv lo t1 t2).1 hne)]
 have hl0 : (tru T rs l).length ≠ 0 := fun h => hne (List.length_eq_zero_iff.1 h)
 have f0 : F9l1 p1 p2 (T, rs) l (tru T rs l) (cert rs l T.toNat 0, 0) 0 = some (.inr ()) := things_loop hv (by omega) lo (by omega) t1 t2 hne T.toNat 0 (by omega)
 rw [he, if_neg (by simp; omega)]
 simp only [bne_self_eq_false, Bool.false_eq_true, if_false, if_true]
 rw [len_cert, show ((T.toNat : Int) != T) = false by rw [bne_eq_false_iff_eq]; omega]
 simp only [Option.bind_some, Bool.false_eq_true, if_false]
 rw [f0]
 rfl
end Go.Proofs.Ytiaippkjgmccoaa
