/- KeysGiven: the plain law. -/
import Derived.Test.YtiaippkjgmccoaaLK8
import Derived.Test.YtiaippkjgmccoaaG11
set_option linter.unusedVariables false
namespace Go.Proofs.Ytiaippkjgmccoaa
open Go Go.Cl
namespace plain
variable {T : Int} {rs : Rules} {l : List Case}
theorem glist_loop {p1 : List (Int × Int)} {p2 : List Int} (h0 : 1 ≤ T) (hT : T ≤ 24) (hp : ∀ x ∈ p2, B8 x) : ∀ (d v : Nat) (out : List Case), v + d = 4 → out.length ≤ v → (∀ c ∈ out, okC T c) → ∃ l, F11l0 p1 p2 (T, rs) out v = some l ∧ l.length ≤ 4 ∧ ∀ c ∈ l, okC T c := by
 intro d
 induction d with
 | zero =>
  intro v out hd hl ho
  refine ⟨out, ?_, by omega, ho⟩
  rw [F11l0, decide_eq_false (show ¬ (v : Int) < 4 by omega)]
  by_cases c : (v : Int) < (p2.length : Int)
  · rw [decide_eq_true c]; rfl
  rw [decide_eq_false c]; rfl
 | succ d ih =>
  intro v out hd hl ho
  rw [F11l0]
  by_cases c : (v : Int) < (p2.length : Int)
  · have hlt : v < p2.length := by omega
    have hget : p2.getD v 0 = p2[v] := by rw [List.getD_eq_getElem?_getD, List.getElem?_eq_getElem hlt]; rfl
    obtain ⟨c1, f1, o1⟩ := F45_eq (T := T) (rs := rs) h0 hT (hp _ (List.getElem_mem hlt))
    obtain ⟨l, f, a, b⟩ := ih (v + 1) (out ++ [c1]) (by omega) (by simp; omega) (fun r hr => by
     rcases List.mem_append.1 hr with h | h
     · exact ho r h
     rw [List.mem_singleton.1 h]; exact o1)
    refine ⟨l, ?_, a, b⟩
    rw [decide_eq_true c, decide_eq_true (show (v : Int) < 4 by omega)]
    simp only [Option.bind_eq_bind, Option.bind_some, if_true]
    rw [if_pos ⟨by omega, c⟩]
    simp only [Int.toNat_natCast, hget]
    rw [f1]
    simp only [Option.bind_some]
    rw [if_pos (by omega), w64_up (by omega)]
    exact f
  exact ⟨out, by rw [decide_eq_false c]; rfl, by omega, ho⟩
theorem clash_in {p1 : List (Int × Int)} {p2 : List Int} {x : Case} {u : Int} (hc : chk T rs = 0) (hx : okC T x) (hl : l.length ≤ 1000) (ho : ∀ c ∈ l, okC T c) : ∀ (d v : Nat) (g : Bool), v + d = l.length → ∃ b, F11l2 p1 p2 x (T, rs) l u g v = some b ∧ (b = true ↔ g = true ∨ ∃ y ∈ l.drop v, Reach rs x (ctr y)) := by
 intro d
 induction d with
 | zero =>
  intro v g hd
  refine ⟨g, by rw [F11l2, if_neg (by simp; omega)], ?_⟩
  rw [List.drop_eq_nil_of_le (by omega)]
  simp
 | succ d ih =>
  intro v g hd
  have hlt : v < l.length := by omega
  have hdr : l.drop v = l[v] :: l.drop (v + 1) := List.drop_eq_getElem_cons hlt
  have oy := ho _ (List.getElem_mem hlt)
  obtain ⟨a, e, f, he⟩ := F28_reach hc hx (okC_ctr.2 oy)
  rw [F11l2, if_pos (by simp; omega), if_pos ⟨by omega, by omega⟩, w64_up (by omega), hdr]
  simp only [Option.bind_eq_bind, Option.bind_some, show ((v : Int)).toNat = v from rfl, cons_get _ hlt]
  rw [F43_eq l[v]]
  simp only [Option.bind_some]
  rw [f]
  simp only [Option.bind_some, List.mem_cons, exists_eq_or_imp]
  cases g
  · simp only [Bool.false_eq_true, if_false, false_or, Option.bind_some]
    obtain ⟨b, k, hb⟩ := ih (v + 1) (e == 0) (by omega)
    exact ⟨b, k, by rw [hb, beq_iff_eq, he]⟩
  simp only [if_true, Option.bind_some]
  obtain ⟨b, k, hb⟩ := ih (v + 1) true (by omega)
  exact ⟨b, k, by rw [hb]; simp⟩
theorem clash_out {p1 : List (Int × Int)} {p2 : List Int} (hc : chk T rs = 0) (hl : l.length ≤ 1000) (ho : ∀ c ∈ l, okC T c) : ∀ (d v : Nat) (g : Bool), v + d = l.length → ∃ b, F11l1 p1 p2 (T, rs) l g v = some b ∧ (b = true ↔ g = true ∨ ∃ x ∈ l.drop v, ∃ y ∈ l, Reach rs x (ctr y)) := by
 intro d
 induction d with
 | zero =>
  intro v g hd
  refine ⟨g, by rw [F11l1, if_neg (by simp; omega)], ?_⟩
  rw [List.drop_eq_nil_of_le (by omega)]
  simp
 | succ d ih =>
  intro v g hd
  have hlt : v < l.length := by omega
  have hdr : l.drop v = l[v] :: l.drop (v + 1) := List.drop_eq_getElem_cons hlt
  obtain ⟨b, f, hb⟩ := clash_in (p1 := p1) (p2 := p2) (u := v) hc (ho _ (List.getElem_mem hlt)) hl ho l.length 0 g (by omega)
  rw [List.drop_zero] at hb
  have f' : F11l2 p1 p2 l[v] (T, rs) l v g 0 = some b := f
  rw [F11l1, if_pos (by simp; omega), if_pos ⟨by omega, by omega⟩, w64_up (by omega), hdr]
  simp only [Option.bind_eq_bind, Option.bind_some, show ((v : Int)).toNat = v from rfl, cons_get _ hlt]
  rw [f']
  simp only [Option.bind_some, List.mem_cons, exists_eq_or_imp]
  obtain ⟨b', k, hb'⟩ := ih (v + 1) b (by omega)
  refine ⟨b', k, ?_⟩
  rw [hb', hb, or_assoc]
theorem so_loop {p1 : List (Int × Int)} {p2 : List Int} {q : List Bool × Int} (hl : l.length ≤ 1000) (ho : ∀ c ∈ l, okC T c) (hq : (q.1.length : Int) = T) (hh : ∀ c ∈ l, hb q.1 c = true) : ∀ (d v : Nat), v + d = l.length → F11l3 p1 p2 (T, rs) l q v = some (.inr ()) := by
 intro d
 induction d with
 | zero => intro v hd; rw [F11l3, if_neg (by simp; omega)]
 | succ d ih =>
  intro v hd
  have hlt : v < l.length := by omega
  have hm := List.getElem_mem hlt
  rw [F11l3, if_pos (by simp; omega), if_pos ⟨by omega, by omega⟩, w64_up (by omega)]
  simp only [Option.bind_eq_bind, Option.bind_some, show ((v : Int)).toNat = v from rfl, cons_get _ hlt]
  rw [if_pos ⟨(ho _ hm).1, by rw [hq]; exact (ho _ hm).2⟩]
  have h := hh _ hm
  unfold hb at h
  rw [h]
  exact ih (v + 1) (by omega)
end plain
open plain in
theorem plain (p0 : Int) (p1 : List (Int × Int)) (p2 : List Int) (wp0 : (Lit.int .u8 p0).wf = true) (wp1 : ∀ x ∈ p1, (Lit.int .u8 x.1).wf = true ∧ (Lit.int .u8 x.2).wf = true) (wp2 : ∀ x ∈ p2, (Lit.int .u8 x).wf = true) : F11 p0 p1 p2 = some true := by
 obtain ⟨T, rs, f40, t1, t2, hv, hr⟩ := made (p1 := p1) (b8_of wp0) (fun x hx => ⟨b8_of (wp1 x hx).1, b8_of (wp1 x hx).2⟩)
 obtain ⟨l, fl, ll, ol⟩ := glist_loop (T := T) (rs := rs) (p1 := p1) (p2 := p2) t1 (by omega) (fun x hx => b8_of (wp2 x hx)) 4 0 [] rfl (Nat.zero_le _) (fun c hc => by cases hc)
 have fl' : F11l0 p1 p2 (T, rs) [] 0 = some l := fl
 have hc := chk_made t1 t2 hv hr
 have q : rs.length ≤ 1000 := by omega
 unfold F11
 rw [f40]
 simp only [Option.bind_eq_bind, Option.bind_some]
 rw [fl']
 simp only [Option.bind_some]
 rw [F41_eq hv t1 t2 q (fun c hc => by cases hc) (by simp)]
 simp only [Option.bind_some]
 by_cases h0 : ((List.range (2 ^ T.toNat)).map fun i : Nat => (i : Int)).filter (good rs []) = []
 · rw [h0]; rfl
 rw [if_neg (by simpa using h0)]
 obtain ⟨v, hvm⟩ := List.exists_mem_of_ne_nil _ h0
 have hw : ¬ Wrong rs := (good_iff.1 (List.mem_filter.1 hvm).2).1.not_wrong
 obtain ⟨b, f, hb⟩ := clash_out (p1 := p1) (p2 := p2) hc (by omega) ol l.length 0 false (by omega)
 rw [List.drop_zero] at hb
 have f' : F11l1 p1 p2 (T, rs) l false 0 = some b := f
 rw [f', F18_eq q (by omega)]
 simp only [Option.bind_some]
 have hwr : wr rs = false := by
  cases e : wr rs
  · rfl
  exact absurd (wr_iff.1 e) hw
 have e2 : chk2 T rs l = 0 := by
  unfold chk2
  rw [if_neg (by simp [hc]), if_neg (by omega), if_pos (inC_iff.2 ol)]
 cases b
 · have ha : Agrees rs l := agrees_iff.2 fun x hx y hy hxy => by
    have := hb.2 (.inr ⟨x, hx, y, hy, hxy⟩)
    cases this
   have he : err T rs l = 0 := by
    unfold err
    rw [if_neg (by simp [e2]), if_pos ⟨hwr, ag_iff.2 ha⟩]
   obtain ⟨s1, s2⟩ := first_true hv hw ha ol
   have hlen : ((first rs T.toNat 0 l).length : Int) = T := by rw [len_first]; omega
   rw [he]
   simp only [if_true, Bool.false_eq_true, if_false, bne_self_eq_false, Option.bind_some, hlen]
   have g : F11l3 p1 p2 (T, rs) l (first rs T.toNat 0 l, 0) 0 = some (.inr ()) := so_loop (q := (first rs T.toNat 0 l, 0)) (by omega) ol hlen (fun c hc => hb_first.2 (s2 c hc)) l.length 0 (by omega)
   rw [g]
   simp only [Option.bind_some]
   rw [F22_sat hc hlen (fun r hr => (s1 r hr).imp hb_first.2 hb_first.2)]
   rfl
 have hn : ¬ Agrees rs l := fun ha => by
  rcases hb.1 rfl with h | ⟨x, hx, y, hy, h⟩
  · cases h
  exact agrees_iff.1 ha x hx y hy h
 have hag : ag rs l = false := by
  cases e : ag rs l
  · rfl
  exact absurd (ag_iff.1 e) hn
 have he : err T rs l = 13 := by
  unfold err
  rw [if_neg (by simp [e2]), if_neg (by simp [hag])]
 have hn0 : ((List.range (2 ^ T.toNat)).map fun i : Nat => (i : Int)).filter (good rs l) = [] := by
  rw [List.filter_eq_nil_iff]
  intro v _ hg
  obtain ⟨g1, g2⟩ := good_iff.1 hg
  exact hn (g1.agrees g2)
 rw [he]
 simp only [if_true]
 rw [if_pos (by decide)]
 rw [F41_eq hv t1 t2 q ol (by omega), hn0]
 rfl
end Go.Proofs.Ytiaippkjgmccoaa
