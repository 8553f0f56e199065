/- KeysCounts: the plain law. -/
import Derived.Test.YtiaippkjgmccoaaLKb
import Derived.Test.YtiaippkjgmccoaaG6
set_option linter.unusedVariables false
set_option maxRecDepth 100000
namespace Go.Proofs.Ytiaippkjgmccoaa.plain
open Go Go.Cl
section
variable {T : Int} {rs : Rules} {l : List Case}
theorem rspare_loop (hv : okR T rs) (h0 : 0 ≤ T) (hT : T ≤ 24) (hrs : rs.length ≤ 80) : ∀ (d v : Nat) (out : List Int), v + d = rs.length → out.length ≤ v → F37l0 T rs out v = some (out ++ spl rs d v) := by
 intro d
 induction d with
 | zero => intro v out hd ho; rw [F37l0, if_neg (by simp; omega), spl, List.append_nil]
 | succ d ih =>
  intro v out hd ho
  have hlt : v < rs.length := by omega
  have w1 : w64 ((v : Int) + 1) = ((v + 1 : Nat) : Int) := w64_up (by omega)
  have hl := less_len (rs := rs) v
  have hx := anti_ok hv hlt
  have e2 := F60_eq (less_ok hv v) h0 hT (by omega) (l := anti rs v) (by unfold anti; simp) hx
  rw [F37l0, if_pos (by simp; omega), if_pos ⟨by omega, by omega⟩, w1]
  simp only [Option.bind_eq_bind, Option.bind_some, Int.toNat_natCast]
  rw [if_pos (by rw [List.length_take]; omega), if_pos ⟨by omega, by omega⟩, if_pos (by rw [List.length_drop]; omega), if_pos ⟨by omega, by omega⟩, F76_eq, F76_eq]
  simp only [Option.bind_some]
  rw [show ([((ctr (rs.getD v ((0, false), (0, false))).1).1, (ctr (rs.getD v ((0, false), (0, false))).1).2), ((ctr (rs.getD v ((0, false), (0, false))).2).1, (ctr (rs.getD v ((0, false), (0, false))).2).2)] : List Case) = anti rs v from rfl, show List.take v rs ++ List.drop (v + 1) rs = less rs v from rfl, e2]
  simp only [Option.bind_some]
  rw [show (!(!wr (less rs v) && ag (less rs v) (anti rs v))) = spb rs v by unfold spb; simp, spl]
  cases spb rs v
  · simp only [Bool.false_eq_true, if_false, Option.bind_some]
    exact ih (v + 1) out (by omega) (by omega)
  simp only [if_true]
  rw [if_pos (by omega)]
  simp only [Option.bind_some]
  rw [ih (v + 1) _ (by omega) (by simp; omega), List.append_assoc]
  rfl
theorem F37_eq (hrs : rs.length ≤ 1000) : F37 T rs = some (if chk T rs = 0 then spl rs rs.length 0 else [], chk T rs) := by
 unfold F37
 rw [F27_eq hrs]
 simp only [Option.bind_eq_bind, Option.bind_some]
 by_cases hc : chk T rs = 0
 · obtain ⟨t1, t2, t3, hv⟩ := chk_ok hc
   have f : F37l0 T rs [] 0 = some ([] ++ spl rs rs.length 0) := rspare_loop hv (by omega) t2 t3 rs.length 0 [] (by omega) (Nat.zero_le _)
   rw [if_neg (by simp [hc]), f, if_pos hc, hc]
   rfl
 rw [if_pos (by simpa using hc), if_neg hc]
theorem bits_loop {s : Nat} (hs : s < 2 ^ 62) (hT : T ≤ 14) (n : Int) : ∀ (d v : Nat) (w : List Bool), (v : Int) + d = T → (w.length : Int) = T → (∀ i, i < v → w.getD i false = (s / 2 ^ i % 2 == 1)) → F39l1 T rs l n s v w = some (bt T.toNat s) := by
 intro d
 induction d with
 | zero =>
  intro v w hd hw h
  rw [F39l1, if_neg (by simp; omega)]
  congr 1
  refine List.ext_getElem (by rw [len_bt]; omega) (fun i h1 h2 => ?_)
  have a := h i (by omega)
  have b := bt_get T.toNat s i (by omega)
  rw [cons_get _ h1] at a
  rw [cons_get _ h2] at b
  rw [a, b]
 | succ d ih =>
  intro v w hd hw h
  rw [F39l1, if_pos (by simp; omega), if_pos (by omega), if_pos ⟨by omega, by omega⟩, w64_up (by omega)]
  refine ih (v + 1) _ (by omega) (by rw [List.length_set]; exact hw) (fun i hi => ?_)
  rw [show (and64 (shr64 (s : Int) (v : Int)) 1 == 1) = vb s v from rfl, vb_nat hs (by omega), Int.toNat_natCast, List.getD_eq_getElem?_getD, List.getElem?_set]
  by_cases e : v = i
  · rw [if_pos e, if_pos (by omega), e]; rfl
  rw [if_neg e, ← List.getD_eq_getElem?_getD]; exact h i (by omega)
theorem crules_loop (hv : okR T rs) (hrs : rs.length ≤ 1000) {w : List Bool} (hw : (w.length : Int) = T) (n s : Int) : ∀ (d v : Nat) (g : Bool), v + d = rs.length → F39l2 T rs l w n s g v = some (g && (rs.drop v).all fun r => hb w r.1 || hb w r.2) := by
 intro d
 induction d with
 | zero => intro v g hd; rw [F39l2, if_neg (by simp; omega), List.drop_eq_nil_of_le (by omega)]; simp
 | succ d ih =>
  intro v g hd
  have hlt : v < rs.length := by omega
  have hdr : rs.drop v = rs[v] :: rs.drop (v + 1) := List.drop_eq_getElem_cons hlt
  obtain ⟨oa, ob⟩ := hv _ (List.getElem_mem hlt)
  rw [F39l2, if_pos (by simp; omega), w64_up (by omega), hdr, List.all_cons]
  cases g
  · simp only [Bool.false_eq_true, if_false, Option.bind_eq_bind, Option.bind_some]
    rw [ih (v + 1) false (by omega)]
    simp
  rw [if_pos rfl, if_pos ⟨by omega, by omega⟩]
  simp only [Option.bind_eq_bind, Option.bind_some, show ((v : Int)).toNat = v from rfl, cons_get _ hlt]
  rw [F63_eq hw oa ob]
  simp only [Option.bind_some]
  rw [ih (v + 1) _ (by omega)]
  simp
theorem ccases_loop (ho : ∀ c ∈ l, okC T c) (hl : l.length ≤ 1000) {w : List Bool} (hw : (w.length : Int) = T) (n s : Int) : ∀ (d v : Nat) (g : Bool), v + d = l.length → F39l3 T rs l w n s g v = some (g && (l.drop v).all fun c => hb w c) := by
 intro d
 induction d with
 | zero => intro v g hd; rw [F39l3, if_neg (by simp; omega), List.drop_eq_nil_of_le (by omega)]; simp
 | succ d ih =>
  intro v g hd
  have hlt : v < l.length := by omega
  have hdr : l.drop v = l[v] :: l.drop (v + 1) := List.drop_eq_getElem_cons hlt
  have oa := ho _ (List.getElem_mem hlt)
  rw [F39l3, if_pos (by simp; omega), w64_up (by omega), hdr, List.all_cons]
  cases g
  · simp only [Bool.false_eq_true, if_false, Option.bind_eq_bind, Option.bind_some]
    rw [ih (v + 1) false (by omega)]
    simp
  rw [if_pos rfl, if_pos ⟨by omega, by omega⟩]
  simp only [Option.bind_eq_bind, Option.bind_some, show ((v : Int)).toNat = v from rfl, cons_get _ hlt]
  rw [if_pos ⟨oa.1, by have := oa.2; omega⟩]
  simp only [Option.bind_some]
  rw [ih (v + 1) _ (by omega)]
  simp [hb]
theorem sets_loop (hv : okR T rs) (h0 : 1 ≤ T) (hT : T ≤ 14) (hrs : rs.length ≤ 1000) (ho : ∀ c ∈ l, okC T c) (hl : l.length ≤ 1000) : ∀ (d v n : Nat), v + d = 2 ^ T.toNat → n ≤ v → F39l0 T rs l n v = some ((n + sumf (fun s => gl rs l (bt T.toNat s)) d v : Nat) : Int) := by
 have p := pow14 (n := T.toNat) (by omega)
 have sh := shl_14 h0 hT
 generalize 2 ^ T.toNat = P at p sh ⊢
 intro d
 induction d with
 | zero => intro v n hd hn; rw [F39l0, if_pos (by omega), sh, if_neg (by simp; omega)]; rfl
 | succ d ih =>
  intro v n hd hn
  have hs : v < 2 ^ 62 := by have : (16384 : Nat) < 2 ^ 62 := by decide
                             omega
  have hw : ((bt T.toNat v).length : Int) = T := by rw [len_bt]; omega
  rw [F39l0, if_pos (by omega), sh, if_pos (by simp; omega), if_pos ⟨by omega, by omega⟩]
  have f1 := bits_loop (rs := rs) (l := l) hs hT n T.toNat 0 (List.replicate T.toNat false) (by omega) (by rw [List.length_replicate]; omega) (fun i h => by omega)
  have f1' : F39l1 T rs l n v 0 (List.replicate T.toNat false) = some (bt T.toNat v) := f1
  have f2 : F39l2 T rs l (bt T.toNat v) n v true 0 = some (true && (rs.drop 0).all fun r => hb (bt T.toNat v) r.1 || hb (bt T.toNat v) r.2) := crules_loop hv hrs hw n v rs.length 0 true (by omega)
  rw [f1']
  simp only [Option.bind_eq_bind, Option.bind_some]
  rw [f2]
  simp only [Option.bind_some]
  have f3 : ∀ g : Bool, F39l3 T rs l (bt T.toNat v) n v g 0 = some (g && (l.drop 0).all fun c => hb (bt T.toNat v) c) := fun g => ccases_loop ho hl hw n v l.length 0 g (by omega)
  rw [f3]
  simp only [Option.bind_some, List.drop_zero, Bool.true_and]
  rw [show (((rs.all fun r => hb (bt T.toNat v) r.1 || hb (bt T.toNat v) r.2) && l.all fun c => hb (bt T.toNat v) c)) = gl rs l (bt T.toNat v) from rfl, sumf, w64_up (show v ≤ 1000000 by omega), w64_up (show n ≤ 1000000 by omega)]
  cases gl rs l (bt T.toNat v)
  · simp only [Bool.false_eq_true, if_false, Option.bind_some]
    rw [ih (v + 1) n (by omega) (by omega)]
    simp
  simp only [if_true, Option.bind_some]
  rw [ih (v + 1) (n + 1) (by omega) (by omega)]
  congr 2
  omega
theorem F39_eq (hrs : rs.length ≤ 1000) (hl : l.length ≤ 1000) : F39 T rs l = some (if cerr T rs l = 0 then (cl rs l T.toNat [] : Int) else 0, cerr T rs l) := by
 unfold F39
 rw [F59_eq hrs hl]
 simp only [Option.bind_eq_bind, Option.bind_some]
 by_cases hc : chk2 T rs l = 0
 · obtain ⟨t1, t2, t3, hv, t5, ho⟩ := chk2_ok hc
   have e : cerr T rs l = if T > 14 then 16 else 0 := by unfold cerr; rw [if_neg (by simpa using hc)]
   rw [hc, e]
   simp only [beq_self_eq_true, if_true, Option.bind_some]
   by_cases h14 : T > 14
   · rw [decide_eq_true h14, if_pos h14]; rfl
   rw [decide_eq_false h14, if_neg h14]
   simp only [Bool.false_eq_true, if_false, Option.bind_some, bne_self_eq_false]
   have f : F39l0 T rs l 0 0 = some ((0 + sumf (fun s => gl rs l (bt T.toNat s)) (2 ^ T.toNat) 0 : Nat) : Int) := sets_loop hv t1 (by omega) (by omega) ho (by omega) (2 ^ T.toNat) 0 0 (by omega) (Nat.le_refl _)
   rw [f, cl_sum, Nat.zero_add]
   rfl
 have e : cerr T rs l = chk2 T rs l := by unfold cerr; rw [if_pos hc]
 rw [e, if_neg (by simpa using hc), if_neg hc]
 simp only [Option.bind_some, Bool.false_eq_true, if_false]
 rw [if_pos (by simpa using hc)]
end
end Go.Proofs.Ytiaippkjgmccoaa.plain
namespace Go.Proofs.Ytiaippkjgmccoaa
open Go Go.Cl
theorem plain (p0 : Int) (p1 : List ((Int × Bool) × (Int × Bool))) (p2 : List (Int × Bool)) (wp0 : (Lit.int .i64 p0).wf = true) (wp1 : ∀ x ∈ p1, (Lit.int .i64 x.1.1).wf = true ∧ (Lit.int .i64 x.2.1).wf = true) (wp2 : ∀ x ∈ p2, (Lit.int .i64 x.1).wf = true) : F6 p0 p1 p2 = some true := by
 unfold F6
 by_cases h1 : (p1.length : Int) > 100
 · rw [decide_eq_true h1]; rfl
 rw [decide_eq_false h1]
 by_cases h2 : (p2.length : Int) > 100
 · rw [decide_eq_true h2]; rfl
 rw [decide_eq_false h2]
 have key : (∃ b, (if decide (p0 > 8) = true then some (decide (p0 ≤ 14)) else some false) = some b) := by split <;> exact ⟨_, rfl⟩
 obtain ⟨b, hk⟩ := key
 simp only [Bool.false_eq_true, if_false, Option.bind_eq_bind]
 rw [hk]
 simp only [Option.bind_some]
 cases b
 · have q1 : p1.length ≤ 1000 := by omega
   have q2 : p2.length ≤ 1000 := by omega
   simp only [Bool.false_eq_true, if_false]
   rw [plain.F16_eq q1, plain.F36_eq q1]
   simp only [Option.bind_some]
   rw [plain.F37_eq q1, plain.F38_eq q1 q2, plain.F17_eq q2]
   simp only [Option.bind_some]
   rw [plain.F39_eq q1 q2]
   simp only [Option.bind_some]
   have hs : (if plain.chk p0 p1 = 0 then plain.spl p1 p1.length 0 else []).length ≤ 1000 := by
    split
    · have := plain.len_spl p1 p1.length 0; omega
    simp
   rw [plain.F25_eq hs]
   simp only [Option.bind_some, beq_self_eq_true, if_true]
   rfl
 rfl
end Go.Proofs.Ytiaippkjgmccoaa
