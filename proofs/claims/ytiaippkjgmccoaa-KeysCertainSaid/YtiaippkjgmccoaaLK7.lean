/- Offices: books by numbers, chains as the statements go through them, and truths tried one by one. -/
import Derived.Test.YtiaippkjgmccoaaLK6
import Derived.Test.YtiaippkjgmccoaaKQ
set_option linter.unusedVariables false
namespace Go.Proofs.Ytiaippkjgmccoaa.plain
open Go Go.Cl
def B8 (x : Int) : Prop := 0 ≤ x ∧ x ≤ 255
theorem b8_of {x : Int} (h : (Lit.int .u8 x).wf = true) : B8 x := by
 simp [Lit.wf, IntKind.min, IntKind.max, IntKind.signed, IntKind.bits] at h
 exact ⟨by omega, by omega⟩
theorem tmod_in {x S : Int} (h : 0 ≤ x) (hS : 0 < S) : 0 ≤ Int.tmod x S ∧ Int.tmod x S < S := ⟨Int.tmod_nonneg _ h, Int.tmod_lt_of_pos _ hS⟩
section
variable {T : Int} {rs : Rules} {l : List Case}
theorem F45_eq {n : Int} (h0 : 1 ≤ T) (hT : T ≤ 24) (hn : B8 n) : ∃ c, F45 T rs n = some c ∧ okC T c := by
 obtain ⟨n0, n1⟩ := hn
 unfold F45
 rw [if_neg (by omega)]
 have e1 : w64 n = n := w64_in (by omega) (by omega)
 have e2 : Int.tdiv n 2 = n / 2 := Int.tdiv_eq_ediv_of_nonneg n0
 have e3 : w64 (n / 2) = n / 2 := w64_in (by omega) (by omega)
 refine ⟨_, rfl, ?_⟩
 rw [e1, e2, e3]
 exact tmod_in (x := n / 2) (by omega) (by omega)
theorem made {p0 : Int} {p1 : List (Int × Int)} (h : B8 p0) (hp : ∀ x ∈ p1, B8 x.1 ∧ B8 x.2) : ∃ T rs, F40 p0 p1 = some (T, rs) ∧ 1 ≤ T ∧ T ≤ 5 ∧ okR T rs ∧ rs.length ≤ 9 := by
 obtain ⟨h0, h1⟩ := h
 have t := tmod_in (x := p0) (S := 5) h0 (by decide)
 have e1 : w64 p0 = p0 := w64_in (by omega) (by omega)
 have e2 : w64 (1 + Int.tmod p0 5) = 1 + Int.tmod p0 5 := w64_in (by omega) (by omega)
 generalize hT : 1 + Int.tmod p0 5 = T at *
 have T1 : 1 ≤ T := by omega
 have T2 : T ≤ 5 := by omega
 have go : ∀ (d v : Nat) (out : Rules), v + d = 9 → out.length ≤ v → okR T out → ∃ rs, F40l0 p0 p1 v out = some rs ∧ okR T rs ∧ rs.length ≤ 9 := by
  intro d
  induction d with
  | zero =>
   intro v out hd hl ho
   refine ⟨out, ?_, ho, by omega⟩
   rw [F40l0]
   have : decide ((v : Int) < 9) = false := decide_eq_false (by omega)
   rw [this]
   by_cases c : (v : Int) < (p1.length : Int)
   · rw [decide_eq_true c]; rfl
   rw [decide_eq_false c]; rfl
  | succ d ih =>
   intro v out hd hl ho
   rw [F40l0]
   by_cases c : (v : Int) < (p1.length : Int)
   · have hlt : v < p1.length := by omega
     have hm := hp _ (List.getElem_mem hlt)
     have hget : p1.getD v (0, 0) = p1[v] := by rw [List.getD_eq_getElem?_getD, List.getElem?_eq_getElem hlt]; rfl
     obtain ⟨c1, f1, o1⟩ := F45_eq (T := T) (rs := out) T1 (by omega) hm.1
     obtain ⟨c2, f2, o2⟩ := F45_eq (T := T) (rs := out) T1 (by omega) hm.2
     obtain ⟨rs, f, a, b⟩ := ih (v + 1) (out ++ [(c1, c2)]) (by omega) (by simp; omega) (fun r hr => by
      rcases List.mem_append.1 hr with h | h
      · exact ho r h
      rw [List.mem_singleton.1 h]; exact ⟨o1, o2⟩)
     refine ⟨rs, ?_, a, b⟩
     rw [decide_eq_true c, decide_eq_true (show (v : Int) < 9 by omega)]
     simp only [Option.bind_eq_bind, Option.bind_some, if_true]
     rw [if_pos ⟨by omega, c⟩]
     simp only [Option.bind_some, Int.toNat_natCast, hget]
     rw [e1, hT, e2, f1]
     simp only [Option.bind_some]
     rw [f2]
     simp only [Option.bind_some]
     rw [if_pos (by omega), w64_up (by omega)]
     exact f
   refine ⟨out, ?_, ho, by omega⟩
   rw [decide_eq_false c]; rfl
 obtain ⟨rs, f, a, b⟩ := go 9 0 [] (by omega) (Nat.zero_le _) (fun r hr => by cases hr)
 refine ⟨T, rs, ?_, T1, T2, a, b⟩
 unfold F40
 rw [show (0 : Int) = ((0 : Nat) : Int) from rfl, f, e1, hT, e2]
 rfl
theorem chk_made (h0 : 1 ≤ T) (hT : T ≤ 5) (hv : okR T rs) (hl : rs.length ≤ 9) : chk T rs = 0 := by
 unfold chk
 rw [if_neg (by omega), if_neg (by omega), if_pos hv]
open Classical in
noncomputable def ld (rs : Rules) (x y : Case) : Bool := decide (Leads rs x y)
theorem ld_iff {x y : Case} : ld rs x y = true ↔ Leads rs x y := by unfold ld; simp
theorem ld_not {x y : Case} (h : ¬ Leads rs x y) : ld rs x y = false := by
 cases e : ld rs x y
 · rfl
 exact absurd (ld_iff.1 e) h
theorem F43_eq (c : Case) : F43 c.1 c.2 = some (ctr c) := rfl
theorem F79_loop (hrs : rs.length ≤ 1000) (x y : Case) : ∀ (d v : Nat), v + d = rs.length → (F79l0 rs x.1 x.2 y.1 y.2 v = some (.inl ()) ∧ Leads rs x y) ∨ (F79l0 rs x.1 x.2 y.1 y.2 v = some (.inr ()) ∧ ∀ r ∈ rs.drop v, ¬ ((r.1 = ctr x ∧ r.2 = y) ∨ (r.2 = ctr x ∧ r.1 = y))) := by
 intro d
 induction d with
 | zero =>
  intro v hd
  right
  exact ⟨by rw [F79l0, if_neg (by simp; omega)], fun c hc => by rw [List.drop_eq_nil_of_le (by omega)] at hc; cases hc⟩
 | succ d ih =>
  intro v hd
  have hlt : v < rs.length := by omega
  have hdr : rs.drop v = rs[v] :: rs.drop (v + 1) := List.drop_eq_getElem_cons hlt
  rw [F79l0, if_pos (by simp; omega), if_pos ⟨by omega, by omega⟩, w64_up (by omega)]
  simp only [Option.bind_eq_bind, Option.bind_some, show ((v : Int)).toNat = v from rfl, cons_get _ hlt]
  rw [F43_eq x]
  simp only [Option.bind_some, eq_code]
  have hc : (if decide (rs[v].1 = ctr x) = true then if decide (rs[v].2 = y) = true then some true else if decide (rs[v].2 = ctr x) = true then some (decide (rs[v].1 = y)) else some false else if decide (rs[v].2 = ctr x) = true then some (decide (rs[v].1 = y)) else some false) = some (decide ((rs[v].1 = ctr x ∧ rs[v].2 = y) ∨ (rs[v].2 = ctr x ∧ rs[v].1 = y))) := by
   rw [Bool.decide_or, Bool.decide_and, Bool.decide_and]
   generalize decide (rs[v].1 = ctr x) = a
   generalize decide (rs[v].2 = y) = b
   generalize decide (rs[v].2 = ctr x) = c
   generalize decide (rs[v].1 = y) = e
   cases a <;> cases b <;> cases c <;> cases e <;> rfl
  rw [hc]
  simp only [Option.bind_some]
  by_cases h : (rs[v].1 = ctr x ∧ rs[v].2 = y) ∨ (rs[v].2 = ctr x ∧ rs[v].1 = y)
  · rw [decide_eq_true h]
    exact .inl ⟨rfl, rs[v], List.getElem_mem _, h⟩
  rw [decide_eq_false h]
  rcases ih (v + 1) (by omega) with ⟨f, g⟩ | ⟨f, g⟩
  · exact .inl ⟨f, g⟩
  refine .inr ⟨f, ?_⟩
  rw [hdr]
  exact List.forall_mem_cons.2 ⟨h, g⟩
theorem F79_eq (hrs : rs.length ≤ 1000) (x y : Case) : F79 T rs x.1 x.2 y.1 y.2 = some (ld rs x y) := by
 unfold F79
 have := F79_loop hrs x y rs.length 0 (by omega)
 rw [List.drop_zero] at this
 rw [show (0 : Int) = ((0 : Nat) : Int) from rfl]
 rcases this with ⟨f, g⟩ | ⟨f, g⟩
 · rw [f, ld_iff.2 g]; rfl
 rw [f, ld_not (fun ⟨r, hr, h⟩ => g r hr h)]; rfl
def vb (bits : Int) (t : Int) : Bool := and64 (shr64 bits t) 1 == 1
theorem F47_eq {c : Case} (hc : okC T c) (bits : Int) : F47 c.1 c.2 bits = some (vb bits c.1 == c.2) := by
 unfold F47; rw [if_pos hc.1]; rfl
def hs (v : Int → Bool) (c : Case) : Bool := v c.1 == c.2
theorem hs_iff {v : Int → Bool} {c : Case} : hs v c = true ↔ so v c := by unfold hs so; simp
theorem rules_loop (hv : okR T rs) (hrs : rs.length ≤ 1000) (bits : Int) (o : List Int) : ∀ (d v : Nat) (g : Bool), v + d = rs.length → F41l1 T rs l bits o g v = some (g && (rs.drop v).all fun r => hs (vb bits) r.1 || hs (vb bits) r.2) := by
 intro d
 induction d with
 | zero => intro v g hd; rw [F41l1, if_neg (by simp; omega), List.drop_eq_nil_of_le (by omega)]; simp
 | succ d ih =>
  intro v g hd
  have hlt : v < rs.length := by omega
  have hdr : rs.drop v = rs[v] :: rs.drop (v + 1) := List.drop_eq_getElem_cons hlt
  obtain ⟨oa, ob⟩ := hv _ (List.getElem_mem hlt)
  rw [F41l1, if_pos (by simp; omega), if_pos ⟨by omega, by omega⟩, w64_up (by omega), hdr, List.all_cons]
  simp only [Option.bind_eq_bind, Option.bind_some, show ((v : Int)).toNat = v from rfl, cons_get _ hlt]
  rw [F47_eq oa, F47_eq ob]
  cases g
  · simp only [Bool.false_eq_true, if_false, Option.bind_some]
    rw [ih (v + 1) false (by omega)]
    simp
  simp only [if_true, Option.bind_some]
  show ((if (hs (vb bits) rs[v].1) = true then some true else (some (hs (vb bits) rs[v].2)).bind fun r => some r).bind fun m176 => F41l1 T rs l bits o m176 ((v + 1 : Nat) : Int)) = _
  cases h1 : hs (vb bits) rs[v].1
  · simp only [Bool.false_eq_true, if_false, Option.bind_some]
    rw [ih (v + 1) _ (by omega)]
    simp
  simp only [if_true, Option.bind_some]
  rw [ih (v + 1) _ (by omega)]
  simp
theorem cases_loop (ho : ∀ c ∈ l, okC T c) (hl : l.length ≤ 1000) (bits : Int) (o : List Int) : ∀ (d v : Nat) (g : Bool), v + d = l.length → F41l2 T rs l bits o g v = some (g && (l.drop v).all fun c => hs (vb bits) c) := by
 intro d
 induction d with
 | zero => intro v g hd; rw [F41l2, if_neg (by simp; omega), List.drop_eq_nil_of_le (by omega)]; simp
 | succ d ih =>
  intro v g hd
  have hlt : v < l.length := by omega
  have hdr : l.drop v = l[v] :: l.drop (v + 1) := List.drop_eq_getElem_cons hlt
  have oa := ho _ (List.getElem_mem hlt)
  rw [F41l2, if_pos (by simp; omega), if_pos ⟨by omega, by omega⟩, w64_up (by omega), hdr, List.all_cons]
  simp only [Option.bind_eq_bind, Option.bind_some, show ((v : Int)).toNat = v from rfl, cons_get _ hlt]
  rw [F47_eq oa]
  cases g
  · simp only [Bool.false_eq_true, if_false, Option.bind_some]
    rw [ih (v + 1) false (by omega)]
    simp
  simp only [if_true, Option.bind_some]
  rw [ih (v + 1) _ (by omega)]
  unfold hs
  simp
def good (rs : Rules) (l : List Case) (bits : Int) : Bool := (rs.all fun r => hs (vb bits) r.1 || hs (vb bits) r.2) && l.all fun c => hs (vb bits) c
theorem good_iff {bits : Int} : good rs l bits = true ↔ Sat rs (vb bits) ∧ ∀ c ∈ l, so (vb bits) c := by
 unfold good Sat
 simp only [Bool.and_eq_true, List.all_eq_true, Bool.or_eq_true, hs_iff]
theorem truths_loop (hv : okR T rs) (h0 : 0 ≤ T) (hrs : rs.length ≤ 1000) (ho : ∀ c ∈ l, okC T c) (hl : l.length ≤ 1000) (hS : shl64 1 T ≤ 100000) : ∀ (d : Nat) (v : Int) (o : List Int), 0 ≤ v → v + d = shl64 1 T → (o.length : Int) ≤ v → F41l0 T rs l o v = some (o ++ ((List.range d).map fun i : Nat => v + i).filter (good rs l)) := by
 intro d
 induction d with
 | zero => intro v o hv0 hd hlo; rw [F41l0, if_pos h0, if_neg (by simp; omega)]; simp
 | succ d ih =>
  intro v o hv0 hd hlo
  rw [F41l0, if_pos h0, if_pos (by simp; omega), show (0 : Int) = ((0 : Nat) : Int) from rfl, rules_loop hv hrs v o rs.length 0 true (by omega)]
  simp only [Option.bind_eq_bind, Option.bind_some]
  rw [cases_loop ho hl v o l.length 0 _ (by omega)]
  simp only [Option.bind_some, List.drop_zero, Bool.true_and]
  rw [show ((rs.all fun r => hs (vb v) r.1 || hs (vb v) r.2) && l.all fun c => hs (vb v) c) = good rs l v from rfl, w64_in (by omega) (by omega)]
  have hr : (List.range (d + 1)).map (fun i : Nat => v + (i : Int)) = v :: (List.range d).map (fun i : Nat => v + 1 + (i : Int)) := by
   rw [List.range_succ_eq_map, List.map_cons, List.map_map]
   congr 1
   · simp
   refine List.map_congr_left fun i _ => ?_
   simp only [Function.comp]
   push_cast
   omega
  rw [hr, List.filter_cons]
  cases hg : good rs l v
  · simp only [Bool.false_eq_true, if_false, Option.bind_some]
    exact ih (v + 1) o (by omega) (by omega) (by omega)
  simp only [if_true]
  rw [if_pos (by omega)]
  simp only [Option.bind_some]
  rw [ih (v + 1) _ (by omega) (by omega) (by simp; omega), List.append_assoc]
  rfl
theorem shl_small (h0 : 1 ≤ T) (hT : T ≤ 5) : shl64 1 T = 2 ^ T.toNat ∧ (2 : Int) ^ T.toNat ≤ 32 := by
 rcases (by omega : T = 1 ∨ T = 2 ∨ T = 3 ∨ T = 4 ∨ T = 5) with rfl | rfl | rfl | rfl | rfl <;> decide
theorem F41_eq (hv : okR T rs) (h0 : 1 ≤ T) (hT : T ≤ 5) (hrs : rs.length ≤ 1000) (ho : ∀ c ∈ l, okC T c) (hl : l.length ≤ 1000) : F41 T rs l = some (((List.range (2 ^ T.toNat)).map fun i : Nat => (i : Int)).filter (good rs l)) := by
 obtain ⟨e, b⟩ := shl_small h0 hT
 unfold F41
 rw [truths_loop hv (by omega) hrs ho hl (by omega) (2 ^ T.toNat) 0 [] (Int.le_refl _) (by rw [e]; push_cast; omega) (by simp)]
 simp
end
end Go.Proofs.Ytiaippkjgmccoaa.plain
