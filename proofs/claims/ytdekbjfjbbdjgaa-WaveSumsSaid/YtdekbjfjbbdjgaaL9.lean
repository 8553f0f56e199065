/- The plain law of WaveSums: values of sums are sums of values; later hours, and sun and moon exchanged, change nothing. -/
import Derived.Test.YtdekbjfjbbdjgaaLX
set_option linter.unusedVariables false
namespace Go.Proofs.Ytdekbjfjbbdjgaa.waveSums
open Go Go.Cl Go.Proofs.Ytdekbjfjbbdjgaa.plain
theorem asc_of {l l' : List (Int × Int)} {L : Int} (h : Asc l) (hm : l'.map (·.1) = l.map fun y => y.1 + L) : Asc l' := fun j y hy => by
 have hlen : l'.length = l.length := by simpa using congrArg List.length hm
 have at_ : ∀ i : Nat, i < l.length → (l'.getD i (0, 0)).1 = (l.getD i (0, 0)).1 + L := fun i hi => by
  have := congrArg (fun q => q[i]?) hm
  simp only [List.getElem?_map, List.getElem?_eq_getElem hi, List.getElem?_eq_getElem (by omega : i < l'.length), Option.map_some, Option.some.injEq] at this
  rw [List.getD_eq_getElem?_getD, List.getD_eq_getElem?_getD, List.getElem?_eq_getElem hi, List.getElem?_eq_getElem (by omega : i < l'.length)]
  exact this
 obtain ⟨hj, hyj⟩ := List.getElem?_eq_some_iff.1 hy
 have hjl : j < l.length := by omega
 have hl : l[j]? = some (l.getD j (0, 0)) := by rw [List.getD_eq_getElem?_getD, List.getElem?_eq_getElem hjl]; rfl
 have hy' : y = l'.getD j (0, 0) := by rw [List.getD_eq_getElem?_getD, hy]; rfl
 rcases h j _ hl with e | e
 · exact .inl e
 right
 rw [hy', at_ j hjl, at_ (j - 1) (by omega)]
 omega
def hnext (b v h : Int) : Int := if v > 0 ∧ Int.tmod b 5 = 0 then h + Int.tmod b 5 + 1 else h + Int.tmod b 5
section
variable {p0 p1 : Int} {p2 : List Int} {p13 : List Int} {S M : Int} {sun moon : List Int}
theorem hours_step (b2 : ∀ x ∈ p2, B8 x) (hS : w64 (1 + Int.tmod (w64 p0) 5) = S) (hM : w64 (1 + Int.tmod (w64 p1) 5) = M) (s1 : 1 ≤ S) (m1 : 1 ≤ M) (ls : (sun.length : Int) = S) (lm : (moon.length : Int) = M)
 (us : ∀ x ∈ sun, 0 ≤ x ∧ x ≤ 255) (um : ∀ x ∈ moon, -255 ≤ x ∧ x ≤ 0) {v h : Int} {acc : List (Int × Int)} (h0 : 0 ≤ v) (h7 : v < 7) (hv : v < p2.length) (ha : acc.length ≤ 7) (g0 : 0 ≤ h) (g1 : h ≤ 5 * v) :
 F36l2 p0 p1 p2 p13 sun moon h v acc = F36l2 p0 p1 p2 p13 sun moon (hnext (p2.getD v.toNat 0) v h) (v + 1) (acc ++ [(hnext (p2.getD v.toNat 0) v h, at0 sun (Int.tmod (hnext (p2.getD v.toNat 0) v h) S) + at0 moon (Int.tmod (hnext (p2.getD v.toNat 0) v h) M))]) ∧
 0 ≤ hnext (p2.getD v.toNat 0) v h ∧ hnext (p2.getD v.toNat 0) v h ≤ 5 * (v + 1) := by
 obtain ⟨q1, q2⟩ := getD_all (d := 0) b2 (n := v.toNat) (by omega)
 rw [F36l2, if_pos (by simp; omega), if_pos ⟨h0, by omega⟩]
 simp only [Option.bind_eq_bind, Option.bind_some]
 rw [if_neg (by simp; omega), hS, hM]
 generalize List.getD p2 v.toNat 0 = b at q1 q2 ⊢
 have eb : w64 b = b := w64_in (by omega) (by omega)
 have t := tmod_in (S := 5) q1 (by omega)
 rw [eb]
 have key : ∀ m : Int, 0 ≤ m → m ≤ 5 * v + 5 → (if S = 0 then none else if 0 ≤ Int.tmod m S ∧ Int.tmod m S < (sun.length : Int) then
           (if M = 0 then none else if 0 ≤ Int.tmod m M ∧ Int.tmod m M < (moon.length : Int) then
            if List.length acc ≤ 1000000000 then F36l2 p0 p1 p2 p13 sun moon m (w64 (v + 1)) (acc ++ [(m, w64 (List.getD sun (Int.tmod m S).toNat 0 + List.getD moon (Int.tmod m M).toNat 0))]) else none else none) else none) =
       F36l2 p0 p1 p2 p13 sun moon m (v + 1) (acc ++ [(m, at0 sun (Int.tmod m S) + at0 moon (Int.tmod m M))]) := by
  intro m m0 m5
  have ts := tmod_in m0 s1
  have tm := tmod_in m0 m1
  obtain ⟨x1, x2⟩ := getD_all (d := 0) us (n := (Int.tmod m S).toNat) (by omega)
  obtain ⟨x3, x4⟩ := getD_all (d := 0) um (n := (Int.tmod m M).toNat) (by omega)
  have e1 : w64 (List.getD sun (Int.tmod m S).toNat 0 + List.getD moon (Int.tmod m M).toNat 0) = List.getD sun (Int.tmod m S).toNat 0 + List.getD moon (Int.tmod m M).toNat 0 := w64_in (by omega) (by omega)
  have e2 : w64 (v + 1) = v + 1 := w64_in (by omega) (by omega)
  rw [if_neg (by omega), if_pos ⟨ts.1, by omega⟩, if_neg (by omega), if_pos ⟨tm.1, by omega⟩, if_pos (by omega), e1, e2]
  rfl
 have e1 : w64 (h + Int.tmod b 5) = h + Int.tmod b 5 := w64_in (by omega) (by omega)
 have e2 : w64 (h + Int.tmod b 5 + 1) = h + Int.tmod b 5 + 1 := w64_in (by omega) (by omega)
 unfold hnext
 by_cases c0 : v > 0
 · rw [if_pos (by simpa using c0)]
   simp only [Option.bind_some]
   by_cases t0 : Int.tmod b 5 = 0
   · rw [if_pos (by simpa using t0), e1, e2, if_pos ⟨c0, t0⟩]
     simp only [Option.bind_some]
     exact ⟨key _ (by omega) (by omega), by omega, by omega⟩
   rw [if_neg (by simpa using t0), e1, if_neg (fun x => t0 x.2)]
   simp only [Option.bind_some]
   exact ⟨key _ (by omega) (by omega), by omega, by omega⟩
 rw [if_neg (by simpa using c0), if_neg (fun x => c0 x.1)]
 simp only [Option.bind_some, Bool.false_eq_true, if_false]
 rw [e1]
 exact ⟨key _ (by omega) (by omega), by omega, by omega⟩
theorem hours_same {sun' moon' : List Int} (b2 : ∀ x ∈ p2, B8 x) (hS : w64 (1 + Int.tmod (w64 p0) 5) = S) (hM : w64 (1 + Int.tmod (w64 p1) 5) = M) (s1 : 1 ≤ S) (m1 : 1 ≤ M) (ls : (sun.length : Int) = S) (lm : (moon.length : Int) = M)
 (us : ∀ x ∈ sun, 0 ≤ x ∧ x ≤ 255) (um : ∀ x ∈ moon, -255 ≤ x ∧ x ≤ 0) (ls' : (sun'.length : Int) = S) (lm' : (moon'.length : Int) = M) (us' : ∀ x ∈ sun', 0 ≤ x ∧ x ≤ 255) (um' : ∀ x ∈ moon', -255 ≤ x ∧ x ≤ 0) :
 ∀ (d : Nat) (v h : Int) (acc acc' rd rd' : List (Int × Int)), 0 ≤ v → v ≤ 7 → v + d = p2.length → (acc.length : Int) = v → (acc'.length : Int) = v → 0 ≤ h → h ≤ 5 * v → acc.map (·.1) = acc'.map (·.1) →
  F36l2 p0 p1 p2 p13 sun moon h v acc = some rd → F36l2 p0 p1 p2 p13 sun' moon' h v acc' = some rd' → rd.map (·.1) = rd'.map (·.1) := by
 intro d
 induction d with
 | zero =>
  intro v h acc acc' rd rd' h0 h7 hd ha ha' g0 g1 hm e e'
  rw [F36l2, if_neg (by simp; omega)] at e e'
  cases e
  cases e'
  exact hm
 | succ d ih =>
  intro v h acc acc' rd rd' h0 h7 hd ha ha' g0 g1 hm e e'
  by_cases c : v < 7
  · obtain ⟨q, n0, n1⟩ := hours_step (p13 := p13) b2 hS hM s1 m1 ls lm us um (acc := acc) h0 c (by omega) (by omega) g0 g1
    obtain ⟨q', _, _⟩ := hours_step (p13 := p13) b2 hS hM s1 m1 ls' lm' us' um' (acc := acc') h0 c (by omega) (by omega) g0 g1
    rw [q] at e
    rw [q'] at e'
    exact ih (v + 1) _ _ _ rd rd' (by omega) (by omega) (by omega) (by simp; omega) (by simp; omega) n0 n1 (by simp [hm]) e e'
  rw [F36l2, if_pos (by simp; omega), if_pos ⟨h0, by omega⟩] at e e'
  simp only [Option.bind_eq_bind, Option.bind_some] at e e'
  rw [if_pos (by simp; omega)] at e e'
  cases e
  cases e'
  exact hm
theorem made_inv {p3 p4 p5 p6 p7 p8 p9 p10 p11 p12 : Int} {rd : List (Int × Int)} (h : F36 p0 p1 p2 p3 p4 p5 p6 p7 p8 p9 p10 p11 p12 p13 = some ((S, M, rd), sun, moon)) :
 w64 (1 + Int.tmod (w64 p0) 5) = S ∧ w64 (1 + Int.tmod (w64 p1) 5) = M ∧ F36l2 p0 p1 p2 p13 sun moon 0 0 [] = some rd := by
 unfold F36 at h
 obtain ⟨x, e1, h⟩ := Option.bind_eq_some_iff.1 h
 obtain ⟨y, e2, h⟩ := Option.bind_eq_some_iff.1 h
 obtain ⟨z, e3, h⟩ := Option.bind_eq_some_iff.1 h
 cases h
 exact ⟨rfl, rfl, e3⟩
end
section
variable {S M : Int} {rd : List (Int × Int)} {out : Out} {P W : List Int}
theorem value_eq (B : Both S M rd out P W) (g : plain.Good (edges S M rd) (waveOf S out)) {h : Int} (h0 : 0 ≤ h) (h1 : h ≤ 100000) :
 F37 S M rd h = some (if partOf S out (Int.tmod h S) = partOf S out (S + Int.tmod h M) then (waveOf S out (Int.tmod h S) + waveOf S out (S + Int.tmod h M), 0) else (0, 14)) := by
 obtain ⟨k, f, q⟩ := B.fits
 have hk : k = -1 := by
  rcases q with ⟨a, _⟩ | ⟨_, _, a, _⟩
  · exact a
  exact absurd g a
 unfold F37
 rw [B.co]
 simp only [Option.bind_eq_bind, Option.bind_some, bne_self_eq_false, Bool.false_eq_true, if_false]
 rw [B.fo]
 simp only [Option.bind_some]
 rw [f, hk]
 simp only [Option.bind_some]
 rw [if_neg (by decide), F51_eq, decide_eq_true ⟨h0, h1⟩]
 simp only [Option.bind_some, if_true, Bool.false_eq_true, if_false]
 rw [B.F59_eq h0]
 simp only [Option.bind_some]
 by_cases c : partOf S out (Int.tmod h S) = partOf S out (S + Int.tmod h M)
 · rw [if_pos c, if_pos (by simpa using c)]
 rw [if_neg c, if_neg (by simpa using c)]
theorem value_true {n S : Int} {E : Edges} {p w : Int → Int} (so : Sol n S E p w) {u : Int → Int} (hu : ∀ e ∈ E, u e.1 + u e.2.1 = e.2.2) {a b : Int} (ha : 0 ≤ a ∧ a < S) (hb : S ≤ b ∧ b < n) (hp : p a = p b) : w a + w b = u a + u b := by
 have x := so.det u hu a ha.1 (by omega)
 have y := so.det u hu b (by omega) hb.2
 have s1 : sg S a = 1 := if_pos ha.2
 have s2 : sg S b = -1 := if_neg (by omega)
 rw [s1, hp] at x
 rw [s2] at y
 have : (1 : Int) * sg S (p b) * u (p b) + -1 * sg S (p b) * u (p b) = 0 := by
  rw [Int.one_mul, Int.neg_mul, Int.neg_mul, Int.one_mul]; omega
 omega
theorem value_u (h : Rec0 S M rd) (ha : Asc rd) {u : Int → Int} (hu : plain.Good (edges S M rd) u) {t : Int} (h0 : 0 ≤ t) (h1 : t ≤ 100000) : ∃ p w, Sol (S + M) S (edges S M rd) p w ∧
 F37 S M rd t = some (if p (Int.tmod t S) = p (S + Int.tmod t M) then (u (Int.tmod t S) + u (S + Int.tmod t M), 0) else (0, 14)) := by
 obtain ⟨out, P, W, B⟩ := both_of h ha
 have hs := h.s
 have hm := h.m
 have ts := tmod_in h0 hs.1
 have tm := tmod_in h0 hm.1
 refine ⟨_, _, B.so, ?_⟩
 rw [value_eq B (B.so.good (edges_ends h) hu) h0 h1]
 by_cases c : partOf S out (Int.tmod t S) = partOf S out (S + Int.tmod t M)
 · rw [if_pos c, if_pos c, value_true B.so hu ts ⟨by omega, by omega⟩ c]
 rw [if_neg c, if_neg c]
end
def sumL (rd rd' : List (Int × Int)) : List (Int × Int) := List.zipWith (fun a b => (a.1, a.2 + b.2)) rd rd'
theorem drop_getD {l : List (Int × Int)} {k : Nat} (h : k < l.length) : l.drop k = l.getD k (0, 0) :: l.drop (k + 1) := by
 rw [List.drop_eq_getElem_cons h, List.getD_eq_getElem?_getD, List.getElem?_eq_getElem h]; rfl
theorem sum_at {rd rd' : List (Int × Int)} {k : Nat} (h : k < rd.length) (h' : k < rd'.length) : (sumL rd rd').getD k (0, 0) = ((rd.getD k (0, 0)).1, (rd.getD k (0, 0)).2 + (rd'.getD k (0, 0)).2) := by
 unfold sumL
 simp only [List.getD_eq_getElem?_getD, List.getElem?_zipWith, List.getElem?_eq_getElem h, List.getElem?_eq_getElem h']
 rfl
theorem later_at {rd : List (Int × Int)} {L : Int} {k : Nat} (h : k < rd.length) : (later L rd).getD k (0, 0) = ((rd.getD k (0, 0)).1 + L, (rd.getD k (0, 0)).2) := by
 unfold later
 simp only [List.getD_eq_getElem?_getD, List.getElem?_map, List.getElem?_eq_getElem h]
 rfl
section
variable {p0 p1 : Int} {p2 : List Int} {p3 p4 p5 p6 p7 p8 p9 p10 p11 p12 : Int} {p13 : List Int} {p24 p25 : Int} {S M : Int} {rd rd' : List (Int × Int)}
theorem later_loop {r62 : Int × Int × (List (Int × Int))} (hr : r62.2.2 = rd) (hL : 0 ≤ p25 ∧ p25 ≤ 255) (hl : rd.length ≤ 60) (hh : ∀ y ∈ rd, 0 ≤ y.1 ∧ y.1 ≤ 100000) : ∀ (d : Nat) (v : Int) (acc : List (Int × Int)), 0 ≤ v → v + d = rd.length → (acc.length : Int) = v →
 F9l1 p2 p13 p25 r62 v acc = some (acc ++ (later p25 rd).drop v.toNat) := by
 have wl : w64 p25 = p25 := w64_in (by omega) (by omega)
 have ll : (later p25 rd).length = rd.length := List.length_map _
 intro d
 induction d with
 | zero => intro v acc h0 hd ha; rw [F9l1, hr, if_neg (by simp; omega), List.drop_of_length_le (by omega), List.append_nil]
 | succ d ih =>
  intro v acc h0 hd ha
  rw [F9l1, hr, if_pos (by simp; omega), if_pos ⟨h0, by omega⟩, drop_getD (l := later p25 rd) (by omega), later_at (by omega)]
  simp only [Option.bind_eq_bind, Option.bind_some]
  have hy := hh _ (getD_mem (rd := rd) (j := v.toNat) (by omega))
  have w1 : w64 ((rd.getD v.toNat (0, 0)).1 + p25) = (rd.getD v.toNat (0, 0)).1 + p25 := w64_in (by omega) (by omega)
  have w2 : w64 (v + 1) = v + 1 := w64_in (by omega) (by omega)
  rw [if_pos (by omega), wl, w1, w2, ih (v + 1) _ (by omega) (by omega) (by simp; omega), show (v + 1).toNat = v.toNat + 1 by omega]
  simp
theorem add_loop {r1 r3 : (Int × Int × (List (Int × Int))) × (List Int) × (List Int)} (h1 : r1.1.2.2 = rd) (h3 : r3.1.2.2 = rd') (hlen : rd'.length = rd.length) (hL : 0 ≤ p25 ∧ p25 ≤ 255) (hl : rd.length ≤ 60) (hh : ∀ y ∈ rd, (0 ≤ y.1 ∧ y.1 ≤ 100000) ∧ -1000 ≤ y.2 ∧ y.2 ≤ 1000) (hh' : ∀ y ∈ rd', -1000 ≤ y.2 ∧ y.2 ≤ 1000) :
 ∀ (d : Nat) (v : Int) (a b : List (Int × Int)), 0 ≤ v → v + d = rd.length → (a.length : Int) = v → (b.length : Int) = v →
  F9l0 p0 p1 p2 p3 p4 p5 p6 p7 p8 p9 p10 p11 p12 p13 p24 p25 r1 r3 v a b = some (a ++ (sumL rd rd').drop v.toNat, b ++ (later p25 rd).drop v.toNat) := by
 have wl : w64 p25 = p25 := w64_in (by omega) (by omega)
 have ll : (later p25 rd).length = rd.length := List.length_map _
 have lz : (sumL rd rd').length = rd.length := by unfold sumL; rw [List.length_zipWith, hlen, Nat.min_self]
 intro d
 induction d with
 | zero => intro v a b h0 hd ha hb; rw [F9l0, h1, if_neg (by simp; omega), List.drop_of_length_le (by omega), List.drop_of_length_le (by omega), List.append_nil, List.append_nil]
 | succ d ih =>
  intro v a b h0 hd ha hb
  rw [F9l0, h1, h3, if_pos (by simp; omega), if_pos ⟨h0, by omega⟩, drop_getD (l := later p25 rd) (by omega), later_at (by omega), drop_getD (l := sumL rd rd') (by omega), sum_at (by omega) (by omega)]
  simp only [Option.bind_eq_bind, Option.bind_some]
  have hy := hh _ (getD_mem (rd := rd) (j := v.toNat) (by omega))
  have hz := hh' _ (getD_mem (rd := rd') (j := v.toNat) (by omega))
  have w1 : w64 ((rd.getD v.toNat (0, 0)).1 + p25) = (rd.getD v.toNat (0, 0)).1 + p25 := w64_in (by omega) (by omega)
  have w2 : w64 (v + 1) = v + 1 := w64_in (by omega) (by omega)
  have w3 : w64 ((rd.getD v.toNat (0, 0)).2 + (rd'.getD v.toNat (0, 0)).2) = (rd.getD v.toNat (0, 0)).2 + (rd'.getD v.toNat (0, 0)).2 := w64_in (by omega) (by omega)
  rw [if_pos ⟨h0, by omega⟩, if_pos (by omega), if_pos (by omega), wl, w1, w2, w3, ih (v + 1) _ _ (by omega) (by omega) (by simp; omega) (by simp; omega), show (v + 1).toNat = v.toNat + 1 by omega]
  simp
end
section
variable {S M L : Int} {rd : List (Int × Int)}
theorem same_iff {n S : Int} {E : Edges} {p w : Int → Int} (so : Sol n S E p w) {a b : Int} (ha : 0 ≤ a ∧ a < n) (hb : 0 ≤ b ∧ b < n) : p a = p b ↔ ∀ c, Flat E c → c a = c b := by
 constructor
 · intro h c hc
   rw [so.conn c hc a ha.1 ha.2, so.conn c hc b hb.1 hb.2, h]
 intro h
 exact h p so.edge
theorem flat_hours {rd rd' : List (Int × Int)} (h : rd.map (·.1) = rd'.map (·.1)) (c : Int → Int) : Flat (edges S M rd) c → Flat (edges S M rd') c := fun hc e he => by
 obtain ⟨y, hy, rfl⟩ := List.mem_map.1 he
 have : y.1 ∈ rd.map (·.1) := by rw [h]; exact List.mem_map_of_mem (f := fun y : Int × Int => y.1) hy
 obtain ⟨z, hz, ez⟩ := List.mem_map.1 this
 have := hc _ (List.mem_map_of_mem (f := fun y : Int × Int => (Int.tmod y.1 S, S + Int.tmod y.1 M, y.2)) hz)
 dsimp only at this ez ⊢
 rw [ez] at this
 exact this
theorem good_later (hS : 0 < S) (hM : 0 < M) (h0 : ∀ y ∈ rd, 0 ≤ y.1) (hL : 0 ≤ L) {u : Int → Int} (hw : plain.Good (edges S M rd) u) : plain.Good (edges S M (later L rd)) fun x => u (rot S M (-L) x) := good_rd.2 fun z hz => by
 obtain ⟨y, hy, rfl⟩ := List.mem_map.1 hz
 have hy0 := h0 y hy
 have := good_rd.1 hw y hy
 unfold goodR at this ⊢
 dsimp only at this ⊢
 rw [Int.tmod_eq_emod_of_nonneg hy0, Int.tmod_eq_emod_of_nonneg hy0] at this
 rw [Int.tmod_eq_emod_of_nonneg (by omega), Int.tmod_eq_emod_of_nonneg (by omega), rot_sun hS hM, rot_moon hS hM, show y.1 + L + -L = y.1 by omega]
 exact this
theorem good_swp (hS : 0 < S) (hM : 0 < M) (h0 : ∀ y ∈ rd, 0 ≤ y.1) {u : Int → Int} (hw : plain.Good (edges S M rd) u) : plain.Good (edges M S rd) fun x => u (swp M S x) := good_rd.2 fun y hy => by
 have hy0 := h0 y hy
 have a := tmod_in (S := S) hy0 (by omega)
 have b := tmod_in (S := M) hy0 (by omega)
 have := good_rd.1 hw y hy
 unfold goodR at this ⊢
 dsimp only
 unfold swp
 rw [if_pos b.2, if_neg (by omega), show M + Int.tmod y.1 S - M = Int.tmod y.1 S by omega]
 omega
theorem hours_sum {rd rd' : List (Int × Int)} (h : rd.map (·.1) = rd'.map (·.1)) : (sumL rd rd').map (·.1) = rd.map (·.1) := by
 unfold sumL
 have hl : rd.length = rd'.length := by simpa using congrArg List.length h
 apply List.ext_getElem?
 intro i
 simp only [List.getElem?_map, List.getElem?_zipWith]
 by_cases c : i < rd.length
 · rw [List.getElem?_eq_getElem c, List.getElem?_eq_getElem (by omega : i < rd'.length)]; rfl
 rw [List.getElem?_eq_none (by omega : rd.length ≤ i), List.getElem?_eq_none (by omega : rd'.length ≤ i)]
theorem mem_sum {rd rd' : List (Int × Int)} (h : rd.map (·.1) = rd'.map (·.1)) {z : Int × Int} (hz : z ∈ sumL rd rd') : ∃ a b, a ∈ rd ∧ b ∈ rd' ∧ a.1 = b.1 ∧ z = (a.1, a.2 + b.2) := by
 have hl : rd.length = rd'.length := by simpa using congrArg List.length h
 obtain ⟨i, hi⟩ := List.getElem?_of_mem hz
 unfold sumL at hi
 rw [List.getElem?_zipWith] at hi
 by_cases c : i < rd.length
 · rw [List.getElem?_eq_getElem c, List.getElem?_eq_getElem (by omega : i < rd'.length)] at hi
   simp only [Option.some.injEq] at hi
   have e := congrArg (fun q => q[i]?) h
   simp only [List.getElem?_map, List.getElem?_eq_getElem c, List.getElem?_eq_getElem (by omega : i < rd'.length), Option.map_some, Option.some.injEq] at e
   exact ⟨rd[i], rd'[i], List.getElem_mem _, List.getElem_mem _, e, hi.symm⟩
 rw [List.getElem?_eq_none (by omega : rd.length ≤ i)] at hi
 cases hi
theorem less_mem {i : Nat} {y : Int × Int} (hy : y ∈ lessOf rd i) : y ∈ rd := by
 rcases List.mem_append.1 hy with hy | hy
 · exact List.mem_of_mem_take hy
 exact List.mem_of_mem_drop hy
theorem susp_later (hS : 0 < S) (hM : 0 < M) (h0 : ∀ y ∈ rd, 0 ≤ y.1) (hL : 0 ≤ L) : suspects S M (later L rd) = suspects S M rd := by
 unfold suspects
 have hl : (later L rd).length = rd.length := List.length_map _
 rw [hl]
 congr 1
 refine List.filter_congr fun i _ => ?_
 rw [later_less]
 have : (∃ w, plain.Good (edges S M (later L (lessOf rd i))) w) ↔ ∃ w, plain.Good (edges S M (lessOf rd i)) w := later_good hS hM (fun y hy => h0 y (less_mem hy)) hL
 exact decide_eq_decide.2 this
theorem susp_swp (hS : 0 < S) (hM : 0 < M) (h0 : ∀ y ∈ rd, 0 ≤ y.1) : suspects M S rd = suspects S M rd := by
 unfold suspects
 congr 1
 refine List.filter_congr fun i _ => ?_
 have : (∃ w, plain.Good (edges M S (lessOf rd i)) w) ↔ ∃ w, plain.Good (edges S M (lessOf rd i)) w := ⟨swp_good1 hM hS (fun y hy => h0 y (less_mem hy)), swp_good1 hS hM (fun y hy => h0 y (less_mem hy))⟩
 exact decide_eq_decide.2 this
end
theorem plain (p0 : Int) (p1 : Int) (p2 : List Int) (p3 p4 p5 p6 p7 p8 p9 p10 p11 p12 : Int) (p13 : List Int) (p14 p15 p16 p17 p18 p19 p20 p21 p22 p23 p24 p25 : Int)
 (wp0 : (Lit.int .u8 p0).wf = true) (wp1 : (Lit.int .u8 p1).wf = true) (wp2 : ∀ x ∈ p2, (Lit.int .u8 x).wf = true) (wp3 : (Lit.int .u8 p3).wf = true) (wp4 : (Lit.int .u8 p4).wf = true) (wp5 : (Lit.int .u8 p5).wf = true)
 (wp6 : (Lit.int .u8 p6).wf = true) (wp7 : (Lit.int .u8 p7).wf = true) (wp8 : (Lit.int .u8 p8).wf = true) (wp9 : (Lit.int .u8 p9).wf = true) (wp10 : (Lit.int .u8 p10).wf = true) (wp11 : (Lit.int .u8 p11).wf = true) (wp12 : (Lit.int .u8 p12).wf = true)
 (wp13 : ∀ x ∈ p13, (Lit.int .u8 x).wf = true) (wp14 : (Lit.int .u8 p14).wf = true) (wp15 : (Lit.int .u8 p15).wf = true) (wp16 : (Lit.int .u8 p16).wf = true) (wp17 : (Lit.int .u8 p17).wf = true) (wp18 : (Lit.int .u8 p18).wf = true)
 (wp19 : (Lit.int .u8 p19).wf = true) (wp20 : (Lit.int .u8 p20).wf = true) (wp21 : (Lit.int .u8 p21).wf = true) (wp22 : (Lit.int .u8 p22).wf = true) (wp23 : (Lit.int .u8 p23).wf = true) (wp24 : (Lit.int .u8 p24).wf = true) (wp25 : (Lit.int .u8 p25).wf = true)
 (q2 : p2.length < 9223372036854775808) (q13 : p13.length < 9223372036854775808) :
 F9 p0 p1 p2 p3 p4 p5 p6 p7 p8 p9 p10 p11 p12 p13 p14 p15 p16 p17 p18 p19 p20 p21 p22 p23 p24 p25 = some true := by
 have bw : ∀ x ∈ [p3, p4, p5, p6, p7, p8, p9, p10, p11, p12], B8 x := fun x hx => by
  simp only [List.mem_cons, List.not_mem_nil, or_false] at hx
  rcases hx with rfl | rfl | rfl | rfl | rfl | rfl | rfl | rfl | rfl | rfl <;> exact b8_of (by assumption)
 have bw' : ∀ x ∈ [p14, p15, p16, p17, p18, p19, p20, p21, p22, p23], B8 x := fun x hx => by
  simp only [List.mem_cons, List.not_mem_nil, or_false] at hx
  rcases hx with rfl | rfl | rfl | rfl | rfl | rfl | rfl | rfl | rfl | rfl <;> exact b8_of (by assumption)
 have b2 : ∀ x ∈ p2, B8 x := fun x hx => b8_of (wp2 x hx)
 have b13 : ∀ x ∈ p13, B8 x := fun x hx => b8_of (wp13 x hx)
 obtain ⟨S, M, rd, sun, moon, a1, s, m, ls, lm, us, um, a2, hasc, a4⟩ := made (p13 := p13) (b8_of wp0) (b8_of wp1) b2 bw
 obtain ⟨S', M', rd', sun', moon', c1, s', m', ls', lm', us', um', c2, hasc', c4⟩ := made (p13 := p13) (b8_of wp0) (b8_of wp1) b2 bw'
 obtain ⟨e1, e2, e3⟩ := made_inv a1
 obtain ⟨f1, f2, f3⟩ := made_inv c1
 have hSS : S' = S := by rw [← f1, e1]
 have hMM : M' = M := by rw [← f2, e2]
 subst hSS hMM
 have hh : rd.map (·.1) = rd'.map (·.1) := hours_same (p13 := p13) b2 e1 e2 s.1 m.1 ls lm us um ls' lm' us' um' p2.length 0 0 [] [] rd rd' (Int.le_refl _) (by omega) (by omega) rfl rfl (Int.le_refl _) (by omega) rfl e3 f3
 have hlen : rd'.length = rd.length := by simpa using (congrArg List.length hh).symm
 obtain ⟨t0, t1⟩ := b8_of wp24
 obtain ⟨l0, l1⟩ := b8_of wp25
 have h := made_rec s m ls lm us um a2 a4
 have h' := made_rec s m ls' lm' us' um' c2 c4
 have hv : ∀ y ∈ rd, -255 ≤ y.2 ∧ y.2 ≤ 255 := fun y hy => made_val s.1 m.1 ls lm us um (a4 y hy)
 have hv' : ∀ y ∈ rd', -255 ≤ y.2 ∧ y.2 ≤ 255 := fun y hy => made_val s.1 m.1 ls' lm' us' um' (c4 y hy)
 have hhr : ∀ y ∈ rd, 0 ≤ y.1 ∧ y.1 ≤ 40 := fun y hy => (a4 y hy).1
 have hloop := add_loop (p0 := p0) (p1 := p1) (p2 := p2) (p3 := p3) (p4 := p4) (p5 := p5) (p6 := p6) (p7 := p7) (p8 := p8) (p9 := p9) (p10 := p10) (p11 := p11) (p12 := p12) (p13 := p13) (p24 := p24) (p25 := p25) (r1 := ((S', M', rd), sun, moon)) (r3 := ((S', M', rd'), sun', moon')) (rd := rd) (rd' := rd') rfl rfl hlen ⟨l0, l1⟩ (by omega) (fun y hy => ⟨⟨(hhr y hy).1, by have := (hhr y hy).2; omega⟩, by have := hv y hy; omega⟩) (fun y hy => by have := hv' y hy; omega) rd.length 0 [] [] (Int.le_refl _) (by omega) rfl rfl
 simp only [Int.toNat_zero, List.drop_zero, List.nil_append] at hloop
 have good : ∀ {rd : List (Int × Int)} {sun moon : List Int}, Rec0 S' M' rd → (∀ y ∈ rd, MadeR S' M' sun moon y) → plain.Good (edges S' M' rd) (fun i => if i < S' then at0 sun i else at0 moon (i - S')) := fun {rd sun moon} h a4 => good_rd.2 fun y hy => by
  have e := edge_in h hy
  unfold goodR
  dsimp only
  rw [if_pos e.2.1, if_neg (by omega), show S' + Int.tmod y.1 M' - S' = Int.tmod y.1 M' by omega]
  exact (a4 y hy).2.symm
 have g := good h a4
 have g' := good h' c4
 have hsum : Rec0 S' M' (sumL rd rd') := ⟨h.s, h.m, by unfold sumL; rw [List.length_zipWith]; omega, fun y hy => by
  obtain ⟨a, b, ha, hb, _, rfl⟩ := mem_sum hh hy
  exact h.hour a ha, fun y hy => by
  obtain ⟨a, b, ha, hb, _, rfl⟩ := mem_sum hh hy
  have := hv a ha
  have := hv' b hb
  dsimp only
  omega⟩
 have ascs : Asc (sumL rd rd') := asc_of (L := 0) hasc (by rw [hours_sum hh]; simp)
 have gs : plain.Good (edges S' M' (sumL rd rd')) (fun i => (if i < S' then at0 sun i else at0 moon (i - S')) + (if i < S' then at0 sun' i else at0 moon' (i - S'))) := good_rd.2 fun y hy => by
  obtain ⟨a, b, ha, hb, e, rfl⟩ := mem_sum hh hy
  have x1 := good_rd.1 g a ha
  have x2 := good_rd.1 g' b hb
  unfold goodR at x1 x2 ⊢
  dsimp only at x1 x2 ⊢
  rw [← e] at x2
  omega
 have hlat : Rec0 S' M' (later p25 rd) := ⟨h.s, h.m, by unfold later; rw [List.length_map]; omega, fun y hy => by
  obtain ⟨a, ha, rfl⟩ := List.mem_map.1 hy
  have := hhr a ha
  dsimp only
  omega, fun y hy => by
  obtain ⟨a, ha, rfl⟩ := List.mem_map.1 hy
  exact h.val a ha⟩
 have ascl : Asc (later p25 rd) := asc_of (L := p25) hasc (by unfold later; simp)
 have hswp : Rec0 M' S' rd := ⟨h.m, h.s, h.len, h.hour, h.val⟩
 have h0r : ∀ y ∈ rd, 0 ≤ y.1 := fun y hy => (hhr y hy).1
 have S0 : 0 < S' := by omega
 have M0 : 0 < M' := by omega
 have ts := tmod_in t0 s.1
 have tm := tmod_in t0 m.1
 have w24 : w64 p24 = p24 := w64_in (by omega) (by omega)
 have w25 : w64 p25 = p25 := w64_in (by omega) (by omega)
 have w45 : w64 (p24 + p25) = p24 + p25 := w64_in (by omega) (by omega)
 obtain ⟨pa, wa, soa, va⟩ := value_u h hasc g t0 (by omega : p24 ≤ 100000)
 obtain ⟨pb, wb, sob, vb⟩ := value_u h' hasc' g' t0 (by omega : p24 ≤ 100000)
 obtain ⟨pc, wc, soc, vc⟩ := value_u hsum ascs gs t0 (by omega : p24 ≤ 100000)
 obtain ⟨pd, wd, sod, vd⟩ := value_u hlat ascl (good_later S0 M0 h0r l0 g) (t := p24 + p25) (by omega) (by omega)
 obtain ⟨pe, we, soe, ve⟩ := value_u hswp hasc (good_swp S0 M0 h0r g) t0 (by omega : p24 ≤ 100000)
 have ia : 0 ≤ Int.tmod p24 S' ∧ Int.tmod p24 S' < S' + M' := ⟨ts.1, by omega⟩
 have ib : 0 ≤ S' + Int.tmod p24 M' ∧ S' + Int.tmod p24 M' < S' + M' := ⟨by omega, by omega⟩
 have ka : Int.tmod p24 S' = p24 % S' := Int.tmod_eq_emod_of_nonneg t0
 have kb : Int.tmod p24 M' = p24 % M' := Int.tmod_eq_emod_of_nonneg t0
 have kc : Int.tmod (p24 + p25) S' = (p24 + p25) % S' := Int.tmod_eq_emod_of_nonneg (by omega)
 have kd : Int.tmod (p24 + p25) M' = (p24 + p25) % M' := Int.tmod_eq_emod_of_nonneg (by omega)
 have ra : rot S' M' p25 (Int.tmod p24 S') = Int.tmod (p24 + p25) S' := by rw [ka, kc, rot_sun S0 M0]
 have rb : rot S' M' p25 (S' + Int.tmod p24 M') = S' + Int.tmod (p24 + p25) M' := by rw [kb, kd, rot_moon S0 M0]
 have ra' : rot S' M' (-p25) (Int.tmod (p24 + p25) S') = Int.tmod p24 S' := by rw [← ra, rot_back S0 M0 ia.1 ia.2]
 have rb' : rot S' M' (-p25) (S' + Int.tmod (p24 + p25) M') = S' + Int.tmod p24 M' := by rw [← rb, rot_back S0 M0 ib.1 ib.2]
 have sa : swp S' M' (Int.tmod p24 S') = M' + Int.tmod p24 S' := if_pos ts.2
 have sb : swp S' M' (S' + Int.tmod p24 M') = Int.tmod p24 M' := by
  unfold swp; rw [if_neg (by omega)]; omega
 have sa' : swp M' S' (M' + Int.tmod p24 S') = Int.tmod p24 S' := by
  unfold swp; rw [if_neg (by omega)]; omega
 have sb' : swp M' S' (Int.tmod p24 M') = S' + Int.tmod p24 M' := if_pos tm.2
 have inr := rot_in (L := p25) S0 M0 ia.1 ia.2
 have inr2 := rot_in (L := p25) S0 M0 ib.1 ib.2
 rw [ra] at inr
 rw [rb] at inr2
 have eb : pb (Int.tmod p24 S') = pb (S' + Int.tmod p24 M') ↔ pa (Int.tmod p24 S') = pa (S' + Int.tmod p24 M') := by
  rw [same_iff sob ia ib, same_iff soa ia ib]
  exact ⟨fun q c hc => q c (flat_hours hh c hc), fun q c hc => q c (flat_hours hh.symm c hc)⟩
 have ec : pc (Int.tmod p24 S') = pc (S' + Int.tmod p24 M') ↔ pa (Int.tmod p24 S') = pa (S' + Int.tmod p24 M') := by
  rw [same_iff soc ia ib, same_iff soa ia ib]
  exact ⟨fun q c hc => q c (flat_hours (hours_sum hh).symm c hc), fun q c hc => q c (flat_hours (hours_sum hh) c hc)⟩
 have ed : pd (Int.tmod (p24 + p25) S') = pd (S' + Int.tmod (p24 + p25) M') ↔ pa (Int.tmod p24 S') = pa (S' + Int.tmod p24 M') := by
  constructor
  · intro q
    exact Turns.same (later_turns S0 M0 h0r l0) soa sod ia ib (by rw [ra]; exact inr) (by rw [rb]; exact inr2) (by rw [ra, rb]; exact q)
  intro q
  exact Turns.same (later_turns_back S0 M0 h0r l0) sod soa inr inr2 (by rw [ra']; exact ia) (by rw [rb']; exact ib) (by rw [ra', rb']; exact q)
 have ee : pe (Int.tmod p24 M') = pe (M' + Int.tmod p24 S') ↔ pa (Int.tmod p24 S') = pa (S' + Int.tmod p24 M') := by
  have ca : Int.add M' S' = S' + M' := Int.add_comm _ _
  have soe' : Sol (S' + M') M' (edges M' S' rd) pe we := by rw [Int.add_comm S' M']; exact soe
  have j1 : 0 ≤ M' + Int.tmod p24 S' ∧ M' + Int.tmod p24 S' < S' + M' := ⟨by omega, by omega⟩
  have j2 : 0 ≤ Int.tmod p24 M' ∧ Int.tmod p24 M' < S' + M' := ⟨tm.1, by omega⟩
  constructor
  · intro q
    exact Turns.same (swp_turns S0 M0 h0r) soa soe' ia ib (by rw [sa]; exact j1) (by rw [sb]; exact j2) (by rw [sa, sb]; exact q.symm)
  intro q
  have tt : Turns (S' + M') (edges M' S' rd) (edges S' M' rd) (swp M' S') := by
   have := swp_turns (S := M') (M := S') (rd := rd) M0 S0 h0r
   rw [Int.add_comm M' S'] at this
   exact this
  exact (Turns.same tt soe' soa j1 j2 (by rw [sa']; exact ia) (by rw [sb']; exact ib) (by rw [sa', sb']; exact q)).symm
 simp only [ra', rb'] at vd
 simp only [sa', sb'] at ve
 simp only [eb] at vb
 simp only [ec] at vc
 simp only [ed] at vd
 simp only [ee] at ve
 obtain ⟨X, Y, wr, d1, hw, ascw, hw40⟩ := wrong_made40 (p0 := p0) (p1 := p1) (p2 := p2) (p13 := p13) (b8_of wp0) (b8_of wp1) b2 bw b13 q13
 have hwl := later_loop (p2 := p2) (p13 := p13) (p25 := p25) (r62 := (X, Y, wr)) (rd := wr) rfl ⟨l0, l1⟩ hw.len hw.hour wr.length 0 [] (Int.le_refl _) (by omega) rfl
 simp only [Int.toNat_zero, List.drop_zero, List.nil_append] at hwl
 have hwh := hw.s
 have hwm := hw.m
 have X0 : 0 < X := by omega
 have Y0 : 0 < Y := by omega
 have hw0 : ∀ y ∈ wr, 0 ≤ y.1 := fun y hy => (hw.hour y hy).1
 have hwlat : Rec0 X Y (later p25 wr) := ⟨hw.s, hw.m, by unfold later; rw [List.length_map]; exact hw.len, fun y hy => by
  obtain ⟨a, ha, rfl⟩ := List.mem_map.1 hy
  have := hw40 a ha
  have := hw.hour a ha
  dsimp only
  omega, fun y hy => by
  obtain ⟨a, ha, rfl⟩ := List.mem_map.1 hy
  exact hw.val a ha⟩
 have ascwl : Asc (later p25 wr) := asc_of (L := p25) ascw (by unfold later; simp)
 have hwswp : Rec0 Y X wr := ⟨hw.m, hw.s, hw.len, hw.hour, hw.val⟩
 have su1 := susp_eq hw (check_ok hw ascw)
 have su2 := susp_eq hwlat (check_ok hwlat ascwl)
 have su3 := susp_eq hwswp (check_ok hwswp ascw)
 rw [susp_later X0 Y0 hw0 l0] at su2
 rw [susp_swp X0 Y0 hw0] at su3
 obtain ⟨o1, P1, W1, B1⟩ := both_of hw ascw
 obtain ⟨o2, P2, W2, B2⟩ := both_of hwlat ascwl
 have hfirst : firsts (X + Y).toNat P2 = firsts (X + Y).toNat P1 := Nat.le_antisymm
  (Turns.firsts (later_turns_back X0 Y0 hw0 l0) (fun x x0 xn => rot_in X0 Y0 x0 xn) B2.sr B1.sr)
  (Turns.firsts (later_turns X0 Y0 hw0 l0) (fun x x0 xn => rot_in X0 Y0 x0 xn) B1.sr B2.sr)
 have pt1 := B1.parts
 have pt2 := B2.parts
 rw [hfirst] at pt2
 have hsl := susp_len (S := X) (M := Y) (rd := wr)
 have cs := cmp_same (suspects X Y wr) (by have := hw.len; omega)
 unfold F9
 rw [a1]
 simp only [Option.bind_eq_bind, Option.bind_some]
 rw [c1]
 simp only [Option.bind_some]
 rw [hloop]
 simp only [Option.bind_some]
 rw [w24, w25, w45, va]
 simp only [Option.bind_some]
 rw [vb]
 simp only [Option.bind_some]
 rw [vc]
 simp only [Option.bind_some]
 rw [vd]
 simp only [Option.bind_some]
 rw [ve]
 simp only [Option.bind_some]
 have us2 : ∀ i, -1000 ≤ (if i < S' then at0 sun i else at0 moon (i - S')) ∧ (if i < S' then at0 sun i else at0 moon (i - S')) ≤ 1000 := fun i => by
  have q1 : -255 ≤ at0 sun i ∧ at0 sun i ≤ 255 := by
   unfold at0
   by_cases c : i.toNat < sun.length
   · have := getD_all (d := 0) us c; omega
   rw [List.getD_eq_getElem?_getD, List.getElem?_eq_none (by omega)]; exact ⟨by decide, by decide⟩
  have q2 : -255 ≤ at0 moon (i - S') ∧ at0 moon (i - S') ≤ 255 := by
   unfold at0
   by_cases c : (i - S').toNat < moon.length
   · have := getD_all (d := 0) um c; omega
   rw [List.getD_eq_getElem?_getD, List.getElem?_eq_none (by omega)]; exact ⟨by decide, by decide⟩
  split <;> omega
 have us3 : ∀ i, -1000 ≤ (if i < S' then at0 sun' i else at0 moon' (i - S')) ∧ (if i < S' then at0 sun' i else at0 moon' (i - S')) ≤ 1000 := fun i => by
  have q1 : -255 ≤ at0 sun' i ∧ at0 sun' i ≤ 255 := by
   unfold at0
   by_cases c : i.toNat < sun'.length
   · have := getD_all (d := 0) us' c; omega
   rw [List.getD_eq_getElem?_getD, List.getElem?_eq_none (by omega)]; exact ⟨by decide, by decide⟩
  have q2 : -255 ≤ at0 moon' (i - S') ∧ at0 moon' (i - S') ≤ 255 := by
   unfold at0
   by_cases c : (i - S').toNat < moon'.length
   · have := getD_all (d := 0) um' c; omega
   rw [List.getD_eq_getElem?_getD, List.getElem?_eq_none (by omega)]; exact ⟨by decide, by decide⟩
  split <;> omega
 have tail : (F32 p0 p1 p2 p3 p4 p5 p6 p7 p8 p9 p10 p11 p12 p13).bind (fun r62 => (F9l1 p2 p13 p25 r62 0 []).bind fun r81 => (F25 r62.1 r62.2.1 r62.2.2).bind fun r83 => (F25 r62.1 r62.2.1 r81).bind fun r85 => (F25 r62.2.1 r62.1 r62.2.2).bind fun r87 => (F18 r62.1 r62.2.1 r62.2.2).bind fun r89 => (F18 r62.1 r62.2.1 r81).bind fun r91 =>
  (if (r83.2 == 0) = true then if (r85.2 == 0) = true then if (r87.2 == 0) = true then if (r89.2 == 0) = true then if (r91.2 == 0) = true then
   (F20 r83.1 r85.1).bind fun r98 => if r98 = true then (F20 r83.1 r87.1).bind fun r100 => if r100 = true then if (r89.1 == r91.1) = true then F14.bind fun r103 => some r103 else some false else some false else some false
   else some false else some false else some false else some false else some false).bind fun m105 => some m105) = some true := by
  rw [d1]
  simp only [Option.bind_some]
  rw [hwl]
  simp only [Option.bind_some]
  rw [su1]
  simp only [Option.bind_some]
  rw [su2]
  simp only [Option.bind_some]
  rw [su3]
  simp only [Option.bind_some]
  rw [pt1]
  simp only [Option.bind_some]
  rw [pt2]
  simp only [Option.bind_some, beq_self_eq_true, if_true]
  rw [cs]
  simp only [Option.bind_some, if_true]
  rfl
 by_cases c : pa (Int.tmod p24 S') = pa (S' + Int.tmod p24 M')
 · simp only [if_pos c]
   have x1 := us2 (Int.tmod p24 S')
   have x2 := us2 (S' + Int.tmod p24 M')
   have x3 := us3 (Int.tmod p24 S')
   have x4 := us3 (S' + Int.tmod p24 M')
   generalize (if Int.tmod p24 S' < S' then at0 sun (Int.tmod p24 S') else at0 moon (Int.tmod p24 S' - S')) = A at x1 ⊢
   generalize (if S' + Int.tmod p24 M' < S' then at0 sun (S' + Int.tmod p24 M') else at0 moon (S' + Int.tmod p24 M' - S')) = B at x2 ⊢
   generalize (if Int.tmod p24 S' < S' then at0 sun' (Int.tmod p24 S') else at0 moon' (Int.tmod p24 S' - S')) = C at x3 ⊢
   generalize (if S' + Int.tmod p24 M' < S' then at0 sun' (S' + Int.tmod p24 M') else at0 moon' (S' + Int.tmod p24 M' - S')) = D at x4 ⊢
   have wv : w64 (A + B + (C + D)) = A + C + (B + D) := by rw [w64_in (by omega) (by omega)]; omega
   have y1 : (B + A != A + B) = false := by rw [Int.add_comm]; simp
   simp only [bne_self_eq_false, Bool.false_eq_true, if_false, beq_self_eq_true, if_true, wv, y1, Option.bind_some]
   exact tail
 simp only [if_neg c, bne_self_eq_false, Bool.false_eq_true, if_false]
 exact tail
end Go.Proofs.Ytdekbjfjbbdjgaa.waveSums
