/- KeysNames: the plain law. -/
import Derived.Test.YtiaippkjgmccoaaLKc
import Derived.Test.YtiaippkjgmccoaaG13
set_option linter.unusedVariables false
set_option maxRecDepth 100000
namespace Go.Proofs.Ytiaippkjgmccoaa.plain
open Go Go.Cl
section
variable {T : Int} {rs : Rules} {l : List Case} {k : Int}
theorem F48_eq (c : Case) : F48 c.1 c.2 k = some (sw k c) := by
 unfold F48 sw
 by_cases h : c.1 = k
 · rw [if_pos (by simpa using h), if_pos h]; rfl
 rw [if_neg (by simpa using h), if_neg h]
def og (rs : Rules) (t : Nat) : Nat → Nat → Rules
 | 0, _ => []
 | d + 1, v => rev (rs.getD ((v + t) % rs.length) ((0, false), (0, false))) :: og rs t d (v + 1)
theorem mem_og {t : Nat} {r : Case × Case} : ∀ {d v : Nat}, r ∈ og rs t d v ↔ ∃ i, v ≤ i ∧ i < v + d ∧ r = rev (rs.getD ((i + t) % rs.length) ((0, false), (0, false))) := by
 intro d
 induction d with
 | zero => intro v; rw [og]; constructor
           · intro h; cases h
           rintro ⟨i, a, b, _⟩; omega
 | succ d ih =>
  intro v
  rw [og, List.mem_cons, ih]
  constructor
  · rintro (h | ⟨i, a, b, e⟩)
    · exact ⟨v, Nat.le_refl _, by omega, h⟩
    exact ⟨i, by omega, by omega, e⟩
  rintro ⟨i, a, b, e⟩
  by_cases h : i = v
  · subst h; exact .inl e
  exact .inr ⟨i, by omega, by omega, e⟩
theorem len_og (t : Nat) : ∀ d v, (og rs t d v).length = d := by
 intro d
 induction d with
 | zero => intro v; rfl
 | succ d ih => intro v; rw [og, List.length_cons, ih]
theorem og_turned (t : Nat) : Turned rs (og rs t rs.length 0) := by
 constructor
 · intro r hr
   obtain ⟨j, hj, e⟩ := List.getElem_of_mem hr
   have hn : 0 < rs.length := by omega
   have hm := Nat.mod_lt t hn
   have hd := Nat.div_add_mod t rs.length
   have ei : ((j + (rs.length - t % rs.length)) % rs.length + t) % rs.length = j := by
    rw [Nat.mod_add_mod, show j + (rs.length - t % rs.length) + t = j + rs.length * (1 + t / rs.length) by rw [Nat.mul_add, Nat.mul_one]; omega, Nat.add_mul_mod_self_left]
    exact Nat.mod_eq_of_lt hj
   rw [mem_og]
   refine ⟨(j + (rs.length - t % rs.length)) % rs.length, Nat.zero_le _, by rw [Nat.zero_add]; exact Nat.mod_lt _ hn, ?_⟩
   rw [ei, cons_get _ hj, e]
 intro r hr
 obtain ⟨i, a, b, e⟩ := mem_og.1 hr
 have hn : 0 < rs.length := by omega
 have hm := Nat.mod_lt (i + t) hn
 rw [e, cons_get _ hm]
 exact List.getElem_mem hm
theorem both_loop {p1 : List (Int × Int)} {p2 p3 p4 p5 : Int} (hrs : rs.length ≤ 1000) (h3 : B8 p3) (hk : Int.tmod (w64 p2) T = k) : ∀ (d v : Nat) (a b : Rules), v + d = rs.length → a.length = v → b.length = v → F13l0 p1 p2 p3 p4 p5 (T, rs) v a b = some (a ++ (rs.drop v).map (sw2 k), b ++ og rs p3.toNat d v) := by
 obtain ⟨h31, h32⟩ := h3
 intro d
 induction d with
 | zero =>
  intro v a b hd ha hb_
  rw [F13l0, if_neg (by simp; omega), List.drop_eq_nil_of_le (by omega), og]
  simp
 | succ d ih =>
  intro v a b hd ha hb_
  have hlt : v < rs.length := by omega
  have hdr : rs.drop v = rs[v] :: rs.drop (v + 1) := List.drop_eq_getElem_cons hlt
  have e3 : w64 p3 = p3 := w64_in (by omega) (by omega)
  have e4 : w64 ((v : Int) + p3) = ((v + p3.toNat : Nat) : Int) := by rw [w64_in (by omega) (by omega)]; omega
  have e5 : Int.tmod ((v + p3.toNat : Nat) : Int) (rs.length : Int) = (((v + p3.toNat) % rs.length : Nat) : Int) := by
   rw [Int.tmod_eq_emod_of_nonneg (by omega)]; rfl
  have hm := Nat.mod_lt (v + p3.toNat) (show 0 < rs.length by omega)
  rw [F13l0, if_pos (by simp; omega), if_pos ⟨by omega, by dsimp only; omega⟩]
  simp only [Option.bind_eq_bind, Option.bind_some, show ((v : Int)).toNat = v from rfl]
  rw [hk, F48_eq, F48_eq]
  simp only [Option.bind_some]
  rw [if_pos (by omega), if_neg (by omega), e3, e4, e5, if_pos ⟨by omega, by omega⟩, if_pos (by omega), w64_up (by omega), Int.toNat_natCast]
  have h1 := ih (v + 1) (a ++ [sw2 k rs[v]]) (b ++ [rev (rs.getD ((v + p3.toNat) % rs.length) ((0, false), (0, false)))]) (by omega) (by simp; omega) (by simp; omega)
  rw [cons_get _ hlt]
  refine Eq.trans ?_ (h1.trans ?_)
  · rfl
  rw [hdr, List.map_cons, og, List.append_assoc, List.append_assoc]
  rfl
theorem cert_loop13 {p1 : List (Int × Int)} {p2 : Int} (h0 : 0 ≤ T) (hT : T ≤ 5) (hk : Int.tmod (w64 p2) T = k) (hw : ¬ Wrong rs) {e1 e2 : Int} : ∀ (d v : Nat), v + d = T.toNat → F13l1 p1 p2 (T, rs) (cert rs [] T.toNat 0, e1) (cert (rs.map (sw2 k)) [] T.toNat 0, e2) v = some (.inr ()) := by
 have l1 := len_cert rs [] T.toNat 0
 have l2 := len_cert (rs.map (sw2 k)) [] T.toNat 0
 intro d
 induction d with
 | zero => intro v hd; rw [F13l1, if_neg (by simp; omega)]
 | succ d ih =>
  intro v hd
  rw [F13l1, if_pos (by simp; omega), if_pos ⟨by omega, by dsimp only; omega⟩]
  simp only [Option.bind_eq_bind, Option.bind_some, show ((v : Int)).toNat = v from rfl]
  have cc : (0 : Int) ≤ (v : Int) ∧ (v : Int) < ((cert (rs.map (sw2 k)) [] T.toNat 0).length : Int) := ⟨by omega, by omega⟩
  simp only [if_pos cc]
  rw [hk, cert_sw hw _ _ (by omega), w64_up (by omega)]
  have hv2 := cert_at rs [] T.toNat v 0 (by omega)
  have hr : 0 ≤ (cert rs [] T.toNat 0).getD v 0 ∧ (cert rs [] T.toNat 0).getD v 0 ≤ 2 := by
   rw [hv2]
   split
   · split <;> omega
   omega
  generalize (cert rs [] T.toNat 0).getD v 0 = a at hr
  have key : (((if (v : Int) == k then some (a != 2) else some false : Option Bool).bind fun m132 => (if m132 = true then some (w64 (1 - a)) else some a).bind fun m135 => if (sw1 k v a != m135) = true then some (Sum.inl ()) else F13l1 p1 p2 (T, rs) (cert rs [] T.toNat 0, e1) (cert (rs.map (sw2 k)) [] T.toNat 0, e2) ((v + 1 : Nat) : Int)) : Option (Unit ⊕ Unit)) = F13l1 p1 p2 (T, rs) (cert rs [] T.toNat 0, e1) (cert (rs.map (sw2 k)) [] T.toNat 0, e2) ((v + 1 : Nat) : Int) := by
   unfold sw1
   by_cases e : (v : Int) = k
   · rw [if_pos (by simpa using e)]
     simp only [Option.bind_some]
     by_cases h2 : a = 2
     · rw [h2]; simp
     rw [if_pos (by simpa using h2), w64_in (by omega) (by omega), if_pos ⟨e, h2⟩]
     simp
   rw [if_neg (by simpa using e), if_neg (fun h => e h.1)]
   simp
  exact key.trans (ih (v + 1) (by omega))
theorem cerr_small (h0 : 1 ≤ T) (hT : T ≤ 5) (hv : okR T rs) (hl : rs.length ≤ 80) : cerr T rs [] = 0 := by
 have hc : chk T rs = 0 := by
  unfold chk
  rw [if_neg (by omega), if_neg (by omega), if_pos hv]
 rw [cerr_ok hc, if_neg (by simp), if_pos (inC_iff.2 (fun c hc => by cases hc)), if_neg (by omega)]
theorem err_same {rs' : Rules} (h1 : chk T rs = 0) (h2 : chk T rs' = 0) (hw : wr rs' = wr rs) : err T rs' [] = err T rs [] := by
 have e0 : ∀ q : Rules, ag q [] = true := fun q => ag_iff.2 (agrees_iff.2 (fun x hx => by cases hx))
 unfold err chk2
 rw [h1, h2, hw, e0, e0]
end
end Go.Proofs.Ytiaippkjgmccoaa.plain
namespace Go.Proofs.Ytiaippkjgmccoaa
open Go Go.Cl plain
theorem plain (p0 : Int) (p1 : List (Int × Int)) (p2 p3 p4 p5 : Int) (wp0 : (Lit.int .u8 p0).wf = true) (wp1 : ∀ x ∈ p1, (Lit.int .u8 x.1).wf = true ∧ (Lit.int .u8 x.2).wf = true) (wp2 : (Lit.int .u8 p2).wf = true) (wp3 : (Lit.int .u8 p3).wf = true) (wp4 : (Lit.int .u8 p4).wf = true) (wp5 : (Lit.int .u8 p5).wf = true) : F13 p0 p1 p2 p3 p4 p5 = some true := by
 obtain ⟨T, rs, f40, t1, t2, hv, hr⟩ := made (p1 := p1) (b8_of wp0) (fun x hx => ⟨b8_of (wp1 x hx).1, b8_of (wp1 x hx).2⟩)
 have b2 := b8_of wp2
 have hc := chk_made t1 t2 hv hr
 have q : rs.length ≤ 1000 := by omega
 obtain ⟨k, hk⟩ : ∃ k, Int.tmod (w64 p2) T = k := ⟨_, rfl⟩
 have k0 : 0 ≤ k := by
  rw [← hk, w64_in (by have := b2.1; omega) (by have := b2.2; omega)]
  exact (tmod_in b2.1 (by omega)).1
 have f0 : F13l0 p1 p2 p3 p4 p5 (T, rs) 0 [] [] = some (rs.map (sw2 k), og rs p3.toNat rs.length 0) := both_loop q (b8_of wp3) hk rs.length 0 [] [] (by omega) rfl rfl
 have tu := og_turned (rs := rs) p3.toNat
 have lo := len_og (rs := rs) p3.toNat rs.length 0
 generalize og rs p3.toNat rs.length 0 = ord at f0 tu lo
 have lm : (rs.map (sw2 k)).length = rs.length := List.length_map _
 have vm := sw_ok (k := k) hv
 have vo := tu.ok hv
 have cm : chk T (rs.map (sw2 k)) = 0 := chk_made t1 t2 vm (by omega)
 have co : chk T ord = 0 := chk_made t1 t2 vo (by omega)
 have em := cl_flip0 (T := T) hv k0 (by omega)
 have eo := tu.cl T.toNat []
 have es := sw_spl (k := k) (rs := rs) rs.length 0 (by omega)
 obtain ⟨c1, g1, o1⟩ := F45_eq (T := T) (rs := rs) t1 (by omega) (b8_of wp4)
 obtain ⟨c2, g2, o2⟩ := F45_eq (T := T) (rs := rs) t1 (by omega) (b8_of wp5)
 have vp : okR T (rs ++ [(c1, c2)]) := fun r hr => by
  rcases List.mem_append.1 hr with h | h
  · exact hv r h
  rw [List.mem_singleton.1 h]; exact ⟨o1, o2⟩
 have lp : (rs ++ [((c1, c2) : plain.Case × plain.Case)]).length = rs.length + 1 := by simp
 have le := cl_more (rs := rs) (c1, c2) T.toNat []
 unfold F13
 rw [f40]
 simp only [Option.bind_eq_bind, Option.bind_some]
 rw [if_neg (by omega), f0]
 simp only [Option.bind_some]
 rw [F38_eq q (by simp), F38_eq (by omega) (by simp), F38_eq (by omega) (by simp), F36_eq q, F36_eq (by omega), cerr_small t1 t2 hv (by omega), cerr_small t1 t2 vm (by omega), cerr_small t1 t2 vo (by omega), hc, cm, em, eo, lm, es]
 simp only [Option.bind_some, if_true, bne_self_eq_false, Bool.false_eq_true, if_false]
 rw [F25_eq (by have := len_spl rs rs.length 0; omega)]
 simp only [Option.bind_some, Bool.not_true, Bool.false_eq_true, if_false]
 rw [if_pos (by omega), g1]
 simp only [Option.bind_some]
 rw [g2]
 simp only [Option.bind_some]
 rw [show ([((c1.1, c1.2), (c2.1, c2.2))] : plain.Rules) = [(c1, c2)] from rfl, F38_eq (by omega) (by simp), cerr_small t1 t2 vp (by omega)]
 simp only [Option.bind_some, if_true, bne_self_eq_false, Bool.false_eq_true, if_false]
 rw [decide_eq_false (by omega)]
 simp only [Option.bind_some, Bool.false_eq_true, if_false]
 have e1 := err_same (T := T) hc cm (sw_wr (k := k) (rs := rs))
 have e2 := err_same (T := T) hc co tu.wr
 rw [F20_eq q (by simp), F20_eq (by omega) (by simp), F18_eq q (by simp), F18_eq (by omega) (by simp), e1, e2, tu.first]
 simp only [Option.bind_some, bne_self_eq_false, Bool.false_eq_true, if_false]
 have h24 := F24_eq (first_short (T := T) (rs := rs) (l := []) q)
 rw [h24]
 simp only [Option.bind_some, Bool.not_true, Bool.false_eq_true, if_false]
 by_cases he : err T rs [] = 0
 · rw [if_pos he, if_pos he, len_cert, len_cert]
   have hw : ¬ Wrong rs := fun g => by
    have := (err_ok he).2.1
    rw [wr_iff.2 g] at this
    cases this
   have f1 : F13l1 p1 p2 (T, rs) (cert rs [] T.toNat 0, err T rs []) (cert (rs.map (sw2 k)) [] T.toNat 0, err T rs []) 0 = some (.inr ()) := cert_loop13 (by omega) t2 hk hw T.toNat 0 (by omega)
   simp only [bne_self_eq_false, Bool.false_eq_true, if_false]
   rw [f1]
   rfl
 rw [if_neg he, if_neg he]
 simp only [bne_self_eq_false, Bool.false_eq_true, if_false]
 have f1 : F13l1 p1 p2 (T, rs) ([], err T rs []) ([], err T rs []) 0 = some (.inr ()) := by rw [F13l1, if_neg (by simp)]
 rw [f1]
 rfl
end Go.Proofs.Ytiaippkjgmccoaa
