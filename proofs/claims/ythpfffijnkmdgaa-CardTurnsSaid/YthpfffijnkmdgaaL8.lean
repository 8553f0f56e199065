/- CardTurns: the plain law. -/
import Derived.Test.YthpfffijnkmdgaaLM
import Derived.Test.YthpfffijnkmdgaaG8
set_option linter.unusedVariables false
set_option maxRecDepth 100000
namespace Go.Proofs.Ythpfffijnkmdgaa.plain
open Go Go.Cl
section
variable {c : Card} {i j : Nat} {m n : Int} {x y : Rat}
open Classical in
noncomputable def segOf (c : Card) (x : Rat) : Nat := if h : ∃ i, Lies c i (norm c x) then Classical.choose h else 0
theorem segOf_sAt (hc : Ok c) (hi : i < c.length) (h : Hit (ca c i) (cb c i) n) : segOf c (sAt c i n) = i := by
 have hl : Lies c i (norm c (sAt c i n)) := by rw [norm_sAt hc hi h]; exact place_lies hc hi h
 have he : ∃ k, Lies c k (norm c (sAt c i n)) := ⟨i, hl⟩
 unfold segOf
 split
 · rename_i h1
   exact Lies.uniq hc (Classical.choose_spec h1) hl
 rename_i h1
 exact absurd he h1
def sgn (c : Card) (i : Nat) : Int := if ca c i < cb c i then 1 else -1
noncomputable def tot (c : Card) : List Rat → Int
 | [] => 0
 | x :: l => sgn c (segOf c x) + tot c l
theorem tot_app : ∀ (l k : List Rat), tot c (l ++ k) = tot c l + tot c k
 | [], k => by simp [tot]
 | x :: l, k => by rw [List.cons_append, tot, tot, tot_app l k]; omega
theorem tot_perm {l k : List Rat} (h : l.Perm k) : tot c l = tot c k := by
 induction h with
 | nil => rfl
 | cons x _ ih => rw [tot, tot, ih]
 | swap x y l => rw [tot, tot, tot, tot]; omega
 | trans _ _ a b => rw [a, b]
theorem tot_seg (hc : Ok c) (hi : i < c.length) : ∀ l : List Int, (∀ n ∈ l, Hit (ca c i) (cb c i) n) → tot c (l.map (sAt c i)) = l.length * sgn c i := by
 intro l
 induction l with
 | nil => intro _; simp [tot]
 | cons n l ih =>
  intro h
  rw [List.map_cons, tot, ih (fun k hk => h k (List.mem_cons_of_mem _ hk)), segOf_sAt hc hi (h n List.mem_cons_self), List.length_cons]
  push_cast
  rw [Int.add_mul]
  omega
theorem tot_als (hc : Ok c) (hp : ∀ i, i < c.length → (ca c i - m) % 3600 ≠ 0) : ∀ d v, v + d ≤ c.length → tot c (als c m d v) = (bl (m - 7200) (sq c (v + d)) - bl (m - 7200) (sq c v)) + (bl (m - 3600) (sq c (v + d)) - bl (m - 3600) (sq c v)) + (bl m (sq c (v + d)) - bl m (sq c v)) + (bl (m + 3600) (sq c (v + d)) - bl (m + 3600) (sq c v)) + (bl (m + 7200) (sq c (v + d)) - bl (m + 7200) (sq c v)) := by
 intro d
 induction d with
 | zero => intro v _; rw [als, Nat.add_zero]; simp [tot]
 | succ d ih =>
  intro v hv
  have := ih (v + 1) (by omega)
  rw [show v + 1 + d = v + (d + 1) by omega] at this
  have hv' : v < c.length := by omega
  have ne1 := hp v hv'
  have ne2 : (sq c (v + 1) - m) % 3600 ≠ 0 := by
   unfold sq
   split
   · have := hp 0 hc.pos; omega
   exact hp (v + 1) (by omega)
  rw [als, tot_app, tot_seg hc hv' _ (fun n hn => (mem_sol.1 hn).2), this]
  unfold sol
  rw [len_filter_tl, cb_sq hv']
  have e : ∀ n : Int, (n - m) % 3600 = 0 → (((decide (Hit (ca c v) (sq c (v + 1)) n)).toNat : Nat) : Int) * sgn c v = bl n (sq c (v + 1)) - bl n (sq c v) := fun n hn => by
   rw [sq_lt hv']
   unfold bl sgn
   rw [cb_sq hv']
   by_cases h : Hit (ca c v) (sq c (v + 1)) n
   · rw [decide_eq_true h]
     unfold Hit at h
     by_cases g : ca c v < sq c (v + 1)
     · rw [if_pos g, if_pos (by omega), if_neg (by omega)]; rfl
     rw [if_neg g, if_neg (by omega), if_pos (by omega)]; rfl
   rw [decide_eq_false h]
   unfold Hit at h
   by_cases g : n < sq c (v + 1)
   · rw [if_pos g, if_pos (c := n < ca c v) (by omega)]; simp
   rw [if_neg g, if_neg (c := n < ca c v) (by omega)]; simp
  push_cast
  rw [Int.add_mul, Int.add_mul, Int.add_mul, Int.add_mul, e _ (by omega), e _ (by omega), e _ (by omega), e _ (by omega), e _ (by omega)]
  omega
theorem pts_loop {p0 : List (Int × Int)} {p2 : Int} (hc : Ok c) (hm : Int.tmod (w64 p2) 3600 = m) (m0 : 0 ≤ m) (m1 : m < 3600) : ∀ (d v : Nat), v + d = c.length → F8l0 p0 p2 c v = some (.inl true) ∨ (F8l0 p0 p2 c v = some (.inr ()) ∧ ∀ i, v ≤ i → i < c.length → (ca c i - m) % 3600 ≠ 0) := by
 have hcl := hc.le
 intro d
 induction d with
 | zero => intro v hd; right; exact ⟨by rw [F8l0, if_neg (by simp; omega)], fun i a b => by omega⟩
 | succ d ih =>
  intro v hd
  have hlt : v < c.length := by omega
  have r := hc.rng v hlt
  rw [F8l0, if_pos (by simp; omega), if_pos ⟨by omega, by omega⟩]
  simp only [Option.bind_eq_bind, Option.bind_some, show ((v : Int)).toNat = v from rfl]
  rw [show c.getD v (0, 0) = A c v from rfl, hm, w64_in (x := (A c v).1 + (A c v).2) (by omega) (by omega), show (A c v).1 + (A c v).2 = ca c v from rfl, w64_in (x := ca c v - m) (by unfold ca; omega) (by unfold ca; omega), w64_up (by omega)]
  by_cases h : Int.tmod (ca c v - m) 3600 = 0
  · rw [if_pos (by simpa using h)]
    exact .inl rfl
  rw [if_neg (by simpa using h)]
  have hne : (ca c v - m) % 3600 ≠ 0 := fun g => h (by
   obtain ⟨q, hq⟩ := Int.dvd_of_emod_eq_zero g
   rw [hq, Int.mul_tmod_right])
  rcases ih (v + 1) (by omega) with f | ⟨f, g⟩
  · exact .inl f
  refine .inr ⟨f, fun i a b => ?_⟩
  by_cases e : i = v
  · rw [e]; exact hne
  exact g i (by omega) b
theorem up_loop {p0 : List (Int × Int)} {S : List Rat} {e : Int} (hc : Ok c) (hS : S.length ≤ 12) (hall : ∀ x ∈ S, ∃ i n, i < c.length ∧ Hit (ca c i) (cb c i) n ∧ x = sAt c i n) : ∀ (d v : Nat) (u : Int), v + d = S.length → -100 - v ≤ u → u ≤ 100 + v → F8l1 p0 c (S.map fr, e) u v = some (.inr (u + tot c (S.drop v))) := by
 have hcl := hc.le
 intro d
 induction d with
 | zero => intro v u hd _ _; rw [F8l1, if_neg (by simp; omega), List.drop_eq_nil_of_le (by omega)]; simp [tot]
 | succ d ih =>
  intro v u hd u0 u1
  have hlt : v < S.length := by omega
  have hdr : S.drop v = S[v] :: S.drop (v + 1) := List.drop_eq_getElem_cons hlt
  obtain ⟨i, n, hi, hh, ex⟩ := hall _ (List.getElem_mem hlt)
  obtain ⟨q1, q2, q3⟩ := sAt_rng hc hi hh
  obtain ⟨N, D, f41, _⟩ := F41_sAt hc hi hh
  have s := hc.seg hi
  have r := hc.rng i hi
  have hget : List.getD (S.map fr) v (0, 0) = fr S[v] := by rw [cons_get _ (by rw [List.length_map]; exact hlt), List.getElem_map]
  rw [F8l1, if_pos (by simp; omega), if_pos ⟨by omega, by dsimp only; rw [List.length_map]; omega⟩]
  simp only [Option.bind_eq_bind, Option.bind_some, show ((v : Int)).toNat = v from rfl]
  rw [hget, ex, F40_fit q1 q2 (by omega)]
  simp only [Option.bind_some, Bool.not_true, Bool.false_eq_true, if_false]
  rw [f41]
  simp only [Option.bind_some]
  rw [if_neg (by simp), F39_eq hc hi]
  simp only [Option.bind_some]
  rw [w64_in (x := (A c i).1 + (A c i).2) (by omega) (by omega), w64_in (x := (B c i).1 + (B c i).2) (by omega) (by omega), show (A c i).1 + (A c i).2 = ca c i from rfl, show (B c i).1 + (B c i).2 = cb c i from rfl, w64_up (by omega), w64_in (x := u + 1) (by omega) (by omega), w64_in (x := u - 1) (by omega) (by omega)]
  rw [hdr, tot, ex, segOf_sAt hc hi hh]
  unfold sgn
  by_cases g : ca c i < cb c i
  · rw [if_pos (by simpa using g), if_pos g]
    simp only [Option.bind_some]
    rw [ih (v + 1) (u + 1) (by omega) (by omega) (by omega)]
    congr 2
    omega
  rw [if_neg (by simpa using g), if_neg g]
  simp only [Option.bind_some]
  rw [ih (v + 1) (u - 1) (by omega) (by omega) (by omega)]
  congr 2
  omega
end
end Go.Proofs.Ythpfffijnkmdgaa.plain
namespace Go.Proofs.Ythpfffijnkmdgaa
open Go Go.Cl plain
theorem plain (p0 : List (Int × Int)) (p1 p2 : Int) (wp0 : ∀ x ∈ p0, (Lit.int .u16 x.1).wf = true ∧ (Lit.int .u16 x.2).wf = true) (wp1 : (Lit.int .u8 p1).wf = true) (wp2 : (Lit.int .u16 p2).wf = true) : F8 p0 p1 p2 = some true := by
 obtain ⟨c, f38, hr, hc⟩ := made (fun x hx => ⟨u16_of (wp0 x hx).1, u16_of (wp0 x hx).2⟩) (u8_of wp1)
 obtain ⟨u0, u1⟩ := u16_of wp2
 have hl := hr.le
 obtain ⟨t1, t2, t3⟩ := tmod_in (x := p2) (S := 3600) u0 (by decide)
 obtain ⟨m, hm⟩ : ∃ m, Int.tmod (w64 p2) 3600 = m := ⟨_, rfl⟩
 have hm' : m = p2 % 3600 := by rw [← hm, w64_in (by omega) (by omega), t1]
 have m0 : 0 ≤ m := by omega
 have m1 : m < 3600 := by omega
 unfold F8
 rw [f38]
 simp only [Option.bind_eq_bind, Option.bind_some]
 rcases pts_loop (p0 := p0) hc hm m0 m1 c.length 0 (by omega) with f | ⟨f, g⟩
 · have f' : F8l0 p0 p2 c 0 = some (.inl true) := f
   rw [f']; rfl
 have f' : F8l0 p0 p2 c 0 = some (.inr ()) := f
 rw [f', hm]
 simp only [Option.bind_some]
 have hp : ∀ i, i < c.length → (ca c i - m) % 3600 ≠ 0 := fun i hi => g i (Nat.zero_le _) hi
 have hsh := als_short hc m0 m1 c.length 0 (by omega)
 obtain ⟨S, f24, _, hperm, _⟩ := F24_eq hc m0 m1 (fun i hi hf => by have := hf.2; have := hp i hi; omega) (by omega)
 have hlen := hperm.length_eq
 have hT := tot_als hc hp c.length 0 (by omega)
 have r0 := hc.rng 0 hc.pos
 rw [Nat.zero_add, show sq c c.length = ca c 0 + 3600 from if_pos rfl, sq_lt hc.pos, bl_turn m0 m1 (by unfold ca; omega) (by unfold ca; omega), ← tot_perm hperm] at hT
 have f1 : F8l1 p0 c (S.map fr, 0) 0 0 = some (.inr (0 + tot c (S.drop 0))) := up_loop hc (by omega) (fun x hx => by
  obtain ⟨i, n, _, b, hn, e⟩ := mem_als.1 (hperm.mem_iff.1 hx)
  exact ⟨i, n, by omega, (mem_sol.1 hn).2, e⟩) S.length 0 0 (by omega) (by omega) (by omega)
 rw [List.drop_zero, hT] at f1
 rw [f24]
 simp only [Option.bind_some, bne_self_eq_false, Bool.false_eq_true, if_false]
 rw [f1]
 rfl
end Go.Proofs.Ythpfffijnkmdgaa
