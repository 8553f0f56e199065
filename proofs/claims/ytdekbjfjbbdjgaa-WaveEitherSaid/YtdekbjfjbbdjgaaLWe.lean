/- Clash and Verify. -/
import Derived.Test.YtdekbjfjbbdjgaaLWd
set_option linter.unusedVariables false
namespace Go.Proofs.Ytdekbjfjbbdjgaa.plain
open Go Go.Cl
section
variable {S M : Int} {rd : List (Int × Int)} {out : Out}
theorem Way.par {x t : Nd} {l : List (Int × Nd)} (h : Way S M rd out x l t) {p : Int × Nd} (hp : p ∈ l) : ∃ y f q q' m, Way S M rd out p.2 (p :: m) t ∧ Way S M rd out f m t ∧ rd[p.1.toNat]? = some y ∧ Joins S M y p.2 f ∧
 mget out p.2 = some q ∧ mget out f = some q' ∧ q.2.1 = w64 (y.2 - q'.2.1) ∧ 0 ≤ p.1 := by
 induction h with
 | nil x => cases hp
 | @cons x q q' y l t hx h0 hy hj hf hw ht ih =>
  rcases List.mem_cons.1 hp with rfl | hp
  · exact ⟨y, q.2.2.2, q, q', l, .cons hx h0 hy hj hf hw ht, ht, hy, hj, hx, hf, hw, h0⟩
  exact ih hp
theorem Way.one {x x' r : Nd} {l l' : List (Int × Nd)} (h : Way S M rd out x l r) (h' : Way S M rd out x' l' r) (hr : IsRoot out r) {p p' : Int × Nd} (hp : p ∈ l) (hp' : p' ∈ l') (hne : p.2 ≠ p'.2) : p.1 ≠ p'.1 := by
 intro e
 obtain ⟨y, f, q, q2, m, w1, w2, hy, hj, _⟩ := h.par hp
 obtain ⟨y', f', q', q2', m', w1', w2', hy', hj', _⟩ := h'.par hp'
 rw [e, hy'] at hy
 cases hy
 obtain ⟨e1, e2⟩ : f = p'.2 ∧ f' = p.2 := by
  rcases hj with ⟨a, b⟩ | ⟨a, b⟩ <;> rcases hj' with ⟨c, d⟩ | ⟨c, d⟩
  · exact absurd (a.trans c.symm) hne
  · exact ⟨b.trans c.symm, d.trans a.symm⟩
  · exact ⟨b.trans c.symm, d.trans a.symm⟩
  exact absurd (a.trans c.symm) hne
 subst e1 e2
 have l1 := congrArg List.length (w2.full hr w1' hr)
 have l2 := congrArg List.length (w2'.full hr w1 hr)
 simp only [List.length_cons] at l1 l2
 omega
end
section
variable {S M : Int} {rd : List (Int × Int)} {out : Out} {P W : List Int} (B : Both S M rd out P W)
include B
theorem Both.good_clash (g : Good (edges S M rd) (at0 W)) : F29 S M rd = some ([], 6) := by
 obtain ⟨k, f, h⟩ := B.fits
 unfold F29
 rw [B.co]
 simp only [Option.bind_eq_bind, Option.bind_some, bne_self_eq_false, Bool.false_eq_true, if_false]
 rw [B.fo]
 simp only [Option.bind_some]
 rw [f]
 simp only [Option.bind_some]
 rcases h with ⟨g1, _⟩ | ⟨g1, g2, g3, g4, _⟩
 · rw [if_pos (by simp; omega)]
 exact absurd g g4
theorem Both.wave_at {z : Nd} {q : Pl} (hz : mget out z = some q) : waveOf S out (ix S z) = q.2.1 := by
 have hv := B.ks z (by rw [hz]; intro e; cases e)
 have hs := B.h.s
 unfold waveOf pl
 rw [nd_ix hv (by omega), hz]
 rfl
theorem Both.bad_clash (g : ¬ Good (edges S M rd) (at0 W)) : ∃ r, F29 S M rd = some (r, 0) ∧ 2 ≤ r.length ∧ r.length ≤ 60 ∧ ∃ m Z, Trail S M rd m r m Z ∧ sp m = -1 ∧ Z ≠ 0 ∧ (∀ i ∈ r, 0 ≤ i ∧ i < rd.length) ∧ r.Nodup := by
 have hs := B.h.s
 have hm := B.h.m
 have hl := B.h.len
 obtain ⟨k, f, h⟩ := B.fits
 rcases h with ⟨_, _, g3, _⟩ | ⟨k0, k1, _, _, _, _, kb⟩
 · exact absurd g3 g
 obtain ⟨y, hy⟩ : ∃ y, rd[k.toNat]? = some y := ⟨_, List.getElem?_eq_getElem (by omega)⟩
 have hyd : rd.getD k.toNat (0, 0) = y := by simp [List.getD, hy]
 have hym : y ∈ rd := List.mem_of_getElem? hy
 have hbad := kb y hy
 obtain ⟨va, vb⟩ := B.h.ends y hym
 have en := edge_in B.h hym
 have T := solve_tree B.h B.fo
 have hol := B.out_len
 have isk : ∀ x, VN S M x → ∃ q, mget out x = some q := fun x hx => by
  have hi := ix_in hx (by omega) (by omega)
  obtain ⟨q, a, _⟩ := B.val (ix S x) hi.1 hi.2
  rw [nd_ix hx (by omega)] at a
  exact ⟨q, a⟩
 obtain ⟨qs, hqs⟩ := isk _ va
 obtain ⟨qm, hqm⟩ := isk _ vb
 obtain ⟨A, r, wA, hr, rA, lA⟩ := T.ways _ _ hqs
 obtain ⟨D, r', wD, hr', rD, lD⟩ := T.ways _ _ hqm
 have hrr : r = r' := by
  have e1 : (pl S out (Int.tmod y.1 S)).1 = qs.1 := by
   rw [← place_a y.1 S out (B.h.hour y hym).1 hs.1]
   show (Option.getD (mget out (nda S y)) _).1 = _
   rw [hqs]; rfl
  have e2 : (pl S out (S + Int.tmod y.1 M)).1 = qm.1 := by
   rw [← place_b y.1 S M out (B.h.hour y hym).1 hm.1]
   show (Option.getD (mget out (ndb M y)) _).1 = _
   rw [hqm]; rfl
  rw [rA, rD, ← e1, ← e2]
  exact (B.root_eq ⟨by omega, by omega⟩ ⟨by omega, by omega⟩).2 (B.so.edge _ (edge_mem (S := S) (M := M) hym))
 subst hrr
 have fA := way_eq wA hr [] (by simp; omega)
 have fD := way_eq wD hr [] (by simp; omega)
 obtain ⟨a', b', c, fs, ea, eb, hne⟩ := strip rd k A.length (A.map (·.1)) (D.map (·.1)) (by simp) (by simp; omega) (by simp; omega)
 obtain ⟨A1, A2, eA, eA1, eA2⟩ := List.map_eq_append_iff.1 ea
 obtain ⟨D1, D2, eD, eD1, eD2⟩ := List.map_eq_append_iff.1 eb
 subst eA eD
 obtain ⟨u, u1, u2⟩ := wA.split
 obtain ⟨v, v1, v2⟩ := wD.split
 have huv : u = v := Way.meet u2 v2 (by rw [eA2, eD2])
 subst huv
 have hnd := ways_apart u1 v1 u2 hr (by
  rcases hne with e | e | e
  · left; rw [← eA1] at e; simpa using e
  · right; left; rw [← eD1] at e; simpa using e
  right; right; rw [eA1, eD1]; exact e)
 have hroot : mget out r ≠ none := by
  obtain ⟨q, a, _⟩ := hr
  rw [a]; intro e; cases e
 have hu : mget out u ≠ none := u2.key hroot u (by
  cases A2 with
  | nil => cases u2; simp
  | cons p A2 => cases u2; simp)
 have hlen : A1.length + D1.length + 1 ≤ 60 := by
  have := len_le_sub (m := keys out) hnd (fun z hz => by
   refine Classical.byContradiction fun hn => ?_
   have hz0 := mget_none.2 hn
   rcases List.mem_append.1 hz with hz | hz
   · exact u1.key hu z (by simp only [List.mem_append]; exact .inl hz) hz0
   exact v1.key hu z hz hz0)
  simp only [List.length_append, List.length_map, List.length_cons, List.length_nil, keys] at this
  omega
 have hb'l : b'.length = D1.length := by rw [← eD1]; simp
 have ha'l : a'.length = A1.length := by rw [← eA1]; simp
 have ft := turn rd (a', b') b' (by omega) (b'.length) 0 ((b'.length : Int) - 1) b' (Int.le_refl _) (by omega) (by omega) rfl (fun t ht => by rw [if_neg (by omega)])
 have fc := concat3 [k] a' b'.reverse (by simp) (by omega) (by simp; omega)
 have hwv : ∀ z q, mget out z = some q → waveOf S out (ix S z) = q.2.1 := fun z q hz => B.wave_at hz
 have hwb : ∀ z, mget out z ≠ none → -60000000 ≤ waveOf S out (ix S z) ∧ waveOf S out (ix S z) ≤ 60000000 := fun z hz => by
  have hi := ix_in (B.ks z hz) (by omega) (by omega)
  exact B.bo _ hi.1 hi.2
 have t1 := u1.trail (w := fun z => waveOf S out (ix S z)) hwv hwb B.h.val
 have t2 := (v1.trail (w := fun z => waveOf S out (ix S z)) hwv hwb B.h.val).rev
 have t0 : Trail S M rd (ndb M y) [k] (nda S y) (-(sp (ndb M y) * y.2) + 0) := .cons k0 hy (.inr ⟨rfl, rfl⟩) (.nil _)
 rw [eA1] at t1
 rw [eD1] at t2
 have t3 := (t0.app t1).app t2
 have hsum : -(sp (ndb M y) * y.2) + 0 + (-(sp (nda S y) * waveOf S out (ix S (nda S y))) + sp u * waveOf S out (ix S u)) + -(-(sp (ndb M y) * waveOf S out (ix S (ndb M y))) + sp u * waveOf S out (ix S u)) ≠ 0 := by
  have e1 : ix S (nda S y) = Int.tmod y.1 S := rfl
  have e2 : ix S (ndb M y) = S + Int.tmod y.1 M := rfl
  rw [sp_a, sp_b, e1, e2]
  intro e
  refine hbad ?_
  unfold goodR
  omega
 have heven := t3.kind
 have hlr : ([k] ++ a' ++ b'.reverse).length = 1 + a'.length + b'.length := by simp; omega
 have hodd : ([k] ++ a' ++ b'.reverse).length % 2 = 0 := by
  refine Classical.byContradiction fun hc => ?_
  rw [if_neg hc, sp_b] at heven
  omega
 refine ⟨[k] ++ a' ++ b'.reverse, ?_, by omega, by omega, _, _, t3, sp_b, hsum, ?_, ?_⟩
 · unfold F29
   rw [B.co]
   simp only [Option.bind_eq_bind, Option.bind_some, bne_self_eq_false, Bool.false_eq_true, if_false]
   rw [B.fo]
   simp only [Option.bind_some]
   rw [f]
   simp only [Option.bind_some]
   rw [if_neg (by simp; omega), if_pos ⟨k0, by omega⟩, hyd]
   unfold F55
   rw [if_neg (by omega), if_neg (by omega)]
   simp only [Option.bind_some]
   unfold F56
   have gA : F56l0 out [] 0 (Int.tmod y.1 S) = some ([] ++ List.map (·.1) (A1 ++ A2)) := fA
   have gD : F56l0 out [] 1 (Int.tmod y.1 M) = some ([] ++ List.map (·.1) (D1 ++ D2)) := fD
   rw [gA, gD]
   simp only [Option.bind_eq_bind, Option.bind_some, List.nil_append]
   rw [fs]
   simp only [Option.bind_some]
   rw [w64_in (x := (b'.length : Int) - 1) (by omega) (by omega), ft]
   simp only [Option.bind_some]
   rw [if_pos (by simp), fc]
   rfl
 · have key : ∀ {x t : Nd} {l : List Int} {Z : Int}, Trail S M rd x l t Z → ∀ i ∈ l, 0 ≤ i ∧ i < rd.length := by
    intro x t l Z h
    induction h with
    | nil x => intro i hi; cases hi
    | cons h0 hy hj _ ih =>
     intro i hi
     rcases List.mem_cons.1 hi with rfl | hi
     · have := (List.getElem?_eq_some_iff.1 hy).1
       omega
     exact ih i hi
   exact key t3
 have nk : ∀ {x : Nd} {l : List (Int × Nd)}, Way S M rd out x l r → ∀ p ∈ l, k ≠ p.1 := fun w p hp e => by
  obtain ⟨y', f', q, q', m, _, _, hy', hj, hq, hq', hw, _⟩ := w.par hp
  rw [← e, hy] at hy'
  cases hy'
  refine hbad ?_
  have c1 := hwv _ _ hq
  have c2 := hwv _ _ hq'
  have b1 := hwb _ (show mget out f' ≠ none by rw [hq']; intro h; cases h)
  have bv := B.h.val y hym
  rw [w64_in (by omega) (by omega), ← c1, ← c2] at hw
  have i1 : ix S (nda S y) = Int.tmod y.1 S := rfl
  have i2 : ix S (ndb M y) = S + Int.tmod y.1 M := rfl
  unfold goodR
  rcases hj with ⟨a, b⟩ | ⟨a, b⟩ <;> rw [a, b, i1, i2] at hw <;> omega
 have hpair : (A1 ++ D1).Pairwise (fun p p' => p.2 ≠ p'.2) := by
  have : ((A1 ++ D1).map (·.2)).Nodup := by
   rw [List.map_append]
   rw [← List.append_assoc, List.nodup_append] at hnd
   exact hnd.1
  exact List.pairwise_map.1 this
 have mem : ∀ p ∈ A1 ++ D1, ∃ x l, Way S M rd out x l r ∧ p ∈ l := fun p hp => by
  rcases List.mem_append.1 hp with hp | hp
  · exact ⟨_, _, wA, List.mem_append.2 (.inl hp)⟩
  exact ⟨_, _, wD, List.mem_append.2 (.inl hp)⟩
 have hn1 : ((A1 ++ D1).map (·.1)).Nodup := List.pairwise_map.2 (hpair.imp_of_mem fun {p p'} hp hp' hne => by
  obtain ⟨x, l, w, m⟩ := mem p hp
  obtain ⟨x', l', w', m'⟩ := mem p' hp'
  exact w.one w' hr m m' hne)
 rw [List.map_append, eA1, eD1] at hn1
 have hk : k ∉ a' ++ b' := fun h => by
  rw [← eA1, ← eD1, ← List.map_append] at h
  obtain ⟨p, hp, e⟩ := List.mem_map.1 h
  obtain ⟨x, l, w, m⟩ := mem p hp
  exact nk w p m e.symm
 have hperm : ([k] ++ a' ++ b'.reverse).Perm (k :: (a' ++ b')) := by
  rw [List.append_assoc]
  exact (List.Perm.append_left a' (List.reverse_perm b')).cons k
 exact hperm.symm.nodup (List.nodup_cons.2 ⟨hk, hn1⟩)
end
end Go.Proofs.Ytdekbjfjbbdjgaa.plain
