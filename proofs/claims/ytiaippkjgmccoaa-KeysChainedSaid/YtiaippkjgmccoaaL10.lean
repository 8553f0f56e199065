/- KeysChained: the plain law. -/
import Derived.Test.YtiaippkjgmccoaaLKd
import Derived.Test.YtiaippkjgmccoaaG10
set_option linter.unusedVariables false
set_option maxRecDepth 100000
namespace Go.Proofs.Ytiaippkjgmccoaa.plain
open Go Go.Cl
section
variable {T : Int} {rs : Rules} {l : List Case} {x y : Case}
theorem so_loop {p1 : List (Int × Int)} {bits : Int} {a : List Case} {e : Int} {R : List Int} {w : Int} (ha : a.length ≤ 1000) (ho : ∀ c ∈ a, okC T c) (hs_ : ∀ c ∈ a, so (vb bits) c) : ∀ (d v : Nat), v + d = a.length → F10l1 p1 bits (a, e) R w v = some (.inr ()) := by
 intro d
 induction d with
 | zero => intro v hd; rw [F10l1, if_neg (by simp; omega)]
 | succ d ih =>
  intro v hd
  have hlt : v < a.length := by omega
  have hm := List.getElem_mem hlt
  rw [F10l1, if_pos (by simp; omega), if_pos ⟨by omega, by dsimp only; omega⟩, w64_up (by omega)]
  simp only [Option.bind_eq_bind, Option.bind_some, show ((v : Int)).toNat = v from rfl, cons_get _ hlt]
  rw [F47_eq (ho _ hm)]
  simp only [Option.bind_some]
  have := hs_ _ hm
  unfold so at this
  rw [this]
  simp only [beq_self_eq_true, Bool.not_true, Bool.false_eq_true, if_false]
  exact ih (v + 1) (by omega)
theorem all_loop {p1 : List (Int × Int)} {a : List Case} {e : Int} {R : List Int} (hR : R.length ≤ 1000) (ha : a.length ≤ 1000) (ho : ∀ c ∈ a, okC T c) (hs_ : ∀ bits ∈ R, ∀ c ∈ a, so (vb bits) c) : ∀ (d v : Nat), v + d = R.length → F10l0 p1 (a, e) R v = some (.inr ()) := by
 intro d
 induction d with
 | zero => intro v hd; rw [F10l0, if_neg (by simp; omega)]
 | succ d ih =>
  intro v hd
  have hlt : v < R.length := by omega
  have hm := List.getElem_mem hlt
  have f := so_loop (p1 := p1) (R := R) (w := v) (e := e) ha ho (hs_ _ hm) a.length 0 (by omega)
  have f' : F10l1 p1 R[v] (a, e) R v 0 = some (.inr ()) := f
  rw [F10l0, if_pos (by simp; omega), if_pos ⟨by omega, by omega⟩, w64_up (by omega)]
  simp only [Option.bind_eq_bind, Option.bind_some, show ((v : Int)).toNat = v from rfl, cons_get _ hlt]
  rw [f']
  exact ih (v + 1) (by omega)
theorem reach_at {a : List Case} (hw : IsWalk rs a) {c : Case} (hc : c ∈ a) : Reach rs (at_ a 0) c := by
 obtain ⟨i, hi, e⟩ := at_mem_iff.1 hc
 rw [← e]
 exact walk_reach hw i hi
end
end Go.Proofs.Ytiaippkjgmccoaa.plain
namespace Go.Proofs.Ytiaippkjgmccoaa
open Go Go.Cl plain
theorem plain (p0 : Int) (p1 : List (Int × Int)) (p2 p3 : Int) (wp0 : (Lit.int .u8 p0).wf = true) (wp1 : ∀ x ∈ p1, (Lit.int .u8 x.1).wf = true ∧ (Lit.int .u8 x.2).wf = true) (wp2 : (Lit.int .u8 p2).wf = true) (wp3 : (Lit.int .u8 p3).wf = true) : F10 p0 p1 p2 p3 = some true := by
 obtain ⟨T, rs, f40, t1, t2, hv, hr⟩ := made (p1 := p1) (b8_of wp0) (fun x hx => ⟨b8_of (wp1 x hx).1, b8_of (wp1 x hx).2⟩)
 have hc := chk_made t1 t2 hv hr
 have q : rs.length ≤ 1000 := by omega
 obtain ⟨x, g1, o1⟩ := F45_eq (T := T) (rs := rs) t1 (by omega) (b8_of wp2)
 obtain ⟨y, g2, o2⟩ := F45_eq (T := T) (rs := rs) t1 (by omega) (b8_of wp3)
 obtain ⟨m, D, F, yes, no⟩ := F28_full hc o1 o2
 obtain ⟨m', D', F', yes', no'⟩ := F28_full hc (x := ctr y) (y := ctr x) o2 o1
 obtain ⟨fy, fn⟩ := F46_eq hv t1 (by omega) (by omega) o1 F y
 unfold F10
 rw [f40]
 simp only [Option.bind_eq_bind, Option.bind_some]
 rw [g1]
 simp only [Option.bind_some]
 rw [g2]
 simp only [Option.bind_some]
 rw [F43_eq x, F43_eq y]
 by_cases hm : met m y
 · have hn := F.near_at _ y rfl hm
   obtain ⟨hm', d1⟩ := F'.near_le hn.skew
   have hn' := F'.near_at _ (ctr x) rfl hm'
   have d2 : D y ≤ D' (ctr x) := by
    have := hn'.skew
    rw [ctr_ctr, ctr_ctr] at this
    exact (F.near_le this).2
   obtain ⟨a, fa, a1, a2, a3, a4, a5, a6⟩ := yes hm
   obtain ⟨b, fb, b1, _⟩ := yes' hm'
   have sm := F.small_D hv (by omega) (by omega) o1 hm
   rw [fa, fy hm]
   simp only [Option.bind_some]
   rw [fb]
   simp only [Option.bind_some]
   have n0 : (((D y : Int) + 1) == 0) = false := by rw [beq_eq_false_iff_ne]; omega
   have n1 : ((a.length : Int) != (D y : Int) + 1) = false := by rw [bne_eq_false_iff_eq]; omega
   have n2 : ((b.length : Int) != (D y : Int) + 1) = false := by rw [bne_eq_false_iff_eq]; omega
   have w1 : w64 ((D y : Int) + 1 - 1) = (D y : Int) := by rw [w64_in (by omega) (by omega)]; omega
   rw [n0, n1, n2, w1]
   simp only [bne_self_eq_false, Bool.false_eq_true, if_false]
   rw [F42_eq hc q a5 a6, a4]
   simp only [Option.bind_some, decide_true, Bool.not_true, Bool.false_eq_true, if_false]
   rw [if_pos ⟨by omega, by omega⟩, show a.getD (Int.toNat 0) (0, false) = x from a2]
   simp only [Option.bind_some, eq_code, decide_true, Bool.not_true, Bool.false_eq_true, if_false]
   rw [if_pos ⟨by omega, by omega⟩, show a.getD (Int.toNat (D y : Int)) (0, false) = y from a3]
   simp only [Option.bind_some, eq_code, decide_true, Bool.not_true, Bool.false_eq_true, if_false]
   rw [F30_eq q (by omega), a4]
   simp only [Option.bind_some, bne_self_eq_false, Bool.false_eq_true, if_false]
   rw [show ([(x.1, x.2)] : List plain.Case) = [x] from rfl, F41_eq hv t1 t2 q (fun c hc => by rw [List.mem_singleton.1 hc]; exact o1) (by simp)]
   simp only [Option.bind_some]
   have hR : (((List.range (2 ^ T.toNat)).map fun i : Nat => (i : Int)).filter (good rs [x])).length ≤ 1000 := by
    have h1 := List.length_filter_le (good rs [x]) ((List.range (2 ^ T.toNat)).map fun i : Nat => (i : Int))
    have h2 := pow14 (n := T.toNat) (by omega)
    have h3 : 2 ^ T.toNat ≤ 2 ^ 5 := Nat.pow_le_pow_right (by decide) (by omega)
    rw [List.length_map, List.length_range] at h1
    omega
   have f0 := all_loop (p1 := p1) (a := a) (e := 0) hR (by omega) a6 (fun bits hb_ c hc => by
    obtain ⟨_, hg⟩ := List.mem_filter.1 hb_
    obtain ⟨s1, s2⟩ := good_iff.1 hg
    refine s1.reach (x := x) ?_ (s2 x (List.mem_singleton.2 rfl))
    have := reach_at (ver_walk a4) hc
    rwa [a2] at this) _ 0 (by rw [Nat.zero_add])
   have f0' : F10l0 p1 (a, 0) (((List.range (2 ^ T.toNat)).map fun i : Nat => (i : Int)).filter (good rs [x])) 0 = some (.inr ()) := f0
   rw [f0']
   rfl
 have hm' : ¬ met m' (ctr x) := fun h => hm (by
  have := (F'.near_at _ _ rfl h).skew
  rw [ctr_ctr, ctr_ctr] at this
  exact (F.near_le this).1)
 rw [no hm, fn hm]
 simp only [Option.bind_some]
 rw [no' hm']
 rfl
end Go.Proofs.Ytiaippkjgmccoaa
