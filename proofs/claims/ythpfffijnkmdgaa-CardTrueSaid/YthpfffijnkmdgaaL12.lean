/- CardTrue: the plain law. -/
import Derived.Test.YthpfffijnkmdgaaLT
import Derived.Test.YthpfffijnkmdgaaG12
set_option linter.unusedVariables false
set_option linter.unusedSimpArgs false
set_option maxRecDepth 100000
namespace Go.Proofs.Ythpfffijnkmdgaa.plain
open Go Go.Cl
theorem F46_small {x : Rat} (hs : Sm 5400 (20000 * 5400) x) (h1 : -((10000 : Int) : Rat) < x) (h2 : x < ((10000 : Int) : Rat)) : F46 (fr x).1 (fr x).2 = some true := by
 have hp := den_pos x
 have hd := hs.den
 have n2 := lt_int.1 h2
 have n1 : -(10000 * (x.den : Int)) < x.num := by
  have := Rat.lt_iff (-((10000 : Int) : Rat)) x
  have h := this.1 h1
  have e1 : (-((10000 : Int) : Rat)).num = -10000 := rfl
  have e2 : (-((10000 : Int) : Rat)).den = 1 := rfl
  rw [e1, e2] at h
  omega
 show F46 x.num x.den = _
 unfold F46
 rw [decide_eq_true (show (x.den : Int) ≥ 1 by omega), decide_eq_true (show (x.den : Int) ≤ 6000 by omega), w64_in (x := 10000 * (x.den : Int)) (by omega) (by omega), w64_in (x := (-10000) * (x.den : Int)) (by omega) (by omega), decide_eq_true n2, decide_eq_true (show x.num > -10000 * (x.den : Int) by omega)]
 rfl
theorem F47_le {a b : Rat} (ha : Sm 5400 (20000 * 5400) a) (hb : Sm 5400 (20000 * 5400) b) (h : a ≤ b) : F47 (fr a).1 (fr a).2 (fr b).1 (fr b).2 = some true := by
 have a1 := ha.den; have a2 := ha.num; have b1 := hb.den; have b2 := hb.num
 have m1 : (a.num * (b.den : Int)).natAbs ≤ 20000 * 5400 * 5400 := by rw [Int.natAbs_mul]; exact Nat.mul_le_mul a2 (by omega)
 have m2 : (b.num * (a.den : Int)).natAbs ≤ 20000 * 5400 * 5400 := by rw [Int.natAbs_mul]; exact Nat.mul_le_mul b2 (by omega)
 show F47 a.num a.den b.num b.den = _
 unfold F47
 rw [w64_in (x := a.num * (b.den : Int)) (by omega) (by omega), w64_in (x := b.num * (a.den : Int)) (by omega) (by omega), decide_eq_true ((Rat.le_iff a b).1 h)]
structure St (c : Card) (v : Nat) (K L : Mks) (R lo hi : Card) : Prop where
 lK : lows K = lo
 hK : highs K = hi
 hL : highs L = R
 n1 : lo.length = v
 n2 : hi.length = v
 n3 : (lows L).length = v
 n4 : R.length = v
 pts : ∀ i, i < v → A lo i = A c i ∧ (A (lows L) i).1 = (A c i).1 ∧ (A R i).1 = (A c i).1 ∧ (A hi i).1 = (A c i).1 ∧ (A c i).2 ≤ (A (lows L) i).2 ∧ (A (lows L) i).2 ≤ (A R i).2 ∧ (A R i).2 ≤ (A hi i).2 ∧ (A hi i).2 ≤ 900
theorem St.next {c : Card} {v : Nat} {K L : Mks} {R lo hi : Card} (s : St c v K L R lo hi) {H a b t u : Int} (h : A c v = (H, a)) (h1 : a ≤ b) (h2 : b ≤ t) (h3 : t ≤ u) (h4 : u ≤ 900) :
 St c (v + 1) (K ++ [(H, (a, u))]) (L ++ [(H, (b, t))]) (R ++ [(H, t)]) (lo ++ [(H, a)]) (hi ++ [(H, u)]) := by
 obtain ⟨lK, hK, hL, n1, n2, n3, n4, pts⟩ := s
 have e1 : lows (L ++ [(H, (b, t))]) = lows L ++ [(H, b)] := List.map_append
 refine ⟨?_, ?_, ?_, ?_, ?_, ?_, ?_, fun i hi' => ?_⟩
 · rw [← lK]; exact List.map_append
 · rw [← hK]; exact List.map_append
 · rw [← hL]; exact List.map_append
 · rw [List.length_append, n1]; rfl
 · rw [List.length_append, n2]; rfl
 · rw [e1, List.length_append, n3]; rfl
 · rw [List.length_append, n4]; rfl
 rw [e1, A_app, A_app, A_app, A_app, n1, n2, n3, n4]
 by_cases g : i < v
 · rw [if_pos g, if_pos g, if_pos g, if_pos g]; exact pts i g
 have e : i = v := by omega
 rw [if_neg g, if_pos e, if_neg g, if_pos e, if_neg g, if_pos e, if_neg g, if_pos e, e, h]
 exact ⟨rfl, rfl, rfl, rfl, h1, h2, h3, h4⟩
theorem true_loop {c : Card} (hr : Rose c) (p0 : List (Int × Int)) {a0 a1 a2 a3 a4 b0 b1 b2 b3 b4 : Int} (m : Int) (wa : U8 a0 ∧ U8 a1 ∧ U8 a2 ∧ U8 a3 ∧ U8 a4) (wb : U8 b0 ∧ U8 b1 ∧ U8 b2 ∧ U8 b3 ∧ U8 b4) :
 ∀ (d v : Nat) (K L : Mks) (R lo hi : Card), v + d = c.length → St c v K L R lo hi → ∃ K' L' R' lo' hi', F12l0 p0 a0 a1 a2 a3 a4 b0 b1 b2 b3 b4 m c (K, L, R, lo, hi, (v : Int)) = some (K', L', R', lo', hi') ∧ St c c.length K' L' R' lo' hi' := by
 have hl := hr.le
 intro d
 induction d with
 | zero =>
  intro v K L R lo hi hd s
  refine ⟨K, L, R, lo, hi, ?_, by rw [show c.length = v by omega]; exact s⟩
  rw [F12l0, if_neg (by simp; omega)]
 | succ d ih =>
  intro v K L R lo hi hd s
  have hlt : v < c.length := by omega
  have pt := hr.pts v hlt
  have k1 : K.length = v := by have := s.n1; rw [← s.lK, lows_len] at this; exact this
  have k2 : L.length = v := by have := s.n3; rw [lows_len] at this; exact this
  have k3 := s.n1; have k4 := s.n2; have k5 := s.n4
  have ua : U8 (List.getD [a0, a1, a2, a3, a4] v 0) := by
   have : v = 0 ∨ v = 1 ∨ v = 2 ∨ v = 3 ∨ v = 4 := by omega
   rcases this with rfl | rfl | rfl | rfl | rfl
   · exact wa.1
   · exact wa.2.1
   · exact wa.2.2.1
   · exact wa.2.2.2.1
   exact wa.2.2.2.2
  have ub : U8 (List.getD [b0, b1, b2, b3, b4] v 0) := by
   have : v = 0 ∨ v = 1 ∨ v = 2 ∨ v = 3 ∨ v = 4 := by omega
   rcases this with rfl | rfl | rfl | rfl | rfl
   · exact wb.1
   · exact wb.2.1
   · exact wb.2.2.1
   · exact wb.2.2.2.1
   exact wb.2.2.2.2
  rw [F12l0]
  dsimp only
  rw [if_pos (by simp; omega), if_pos ⟨by omega, by omega⟩]
  simp only [Option.bind_eq_bind, Int.toNat_natCast]
  rw [show c.getD v (0, 0) = A c v from rfl, Option.bind_some, if_pos ⟨by omega, by omega⟩, Option.bind_some, Option.bind_some]
  generalize List.getD [a0, a1, a2, a3, a4] v 0 = oa at *
  generalize List.getD [b0, b1, b2, b3, b4] v 0 = ob at *
  obtain ⟨u1, u2⟩ := ua
  obtain ⟨v1, v2⟩ := ub
  obtain ⟨t1, t2, t3⟩ := tmod_in (x := oa) (S := 30) u1 (by decide)
  rw [w64_in (x := oa) (by omega) (by omega), w64_in (x := ob) (by omega) (by omega), t1]
  generalize oa % 30 = w at *
  obtain ⟨H, a, hA⟩ : ∃ H a, A c v = (H, a) := ⟨_, _, rfl⟩
  rw [hA] at pt ⊢
  dsimp only at pt ⊢
  have e1 : mn 900 (w64 (a + w)) = a + w := by
   rw [w64_in (by omega) (by omega)]
   unfold mn
   split <;> omega
  rw [e1, w64_in (x := a + w - a) (by omega) (by omega), show a + w - a = w by omega]
  simp only [Option.bind_some]
  obtain ⟨s1, s2, s3⟩ := tmod_in (x := ob) (S := w + 1) v1 (by omega)
  rw [w64_in (x := w + 1) (by omega) (by omega), s1, if_neg (by omega), if_pos (by omega)]
  generalize ob % (w + 1) = t at *
  rw [w64_in (x := a + t) (by omega) (by omega), show a + t - a = t by omega, w64_in (x := t) (by omega) (by omega), Int.tdiv_eq_ediv_of_nonneg s2, w64_in (x := t / 2) (by omega) (by omega), w64_in (x := a + t / 2) (by omega) (by omega), if_pos (by omega), if_pos (by omega), if_pos (by omega), if_pos (by omega), w64_up (by omega)]
  exact ih (v + 1) _ _ _ _ _ (by omega) (s.next hA (by omega) (by omega) (by omega) (by omega))
theorem ok_same {c d : Card} (hc : Ok c) (hl : d.length = c.length) (h : ∀ i, i < c.length → (A d i).1 = (A c i).1 ∧ -900 ≤ (A d i).2 ∧ (A d i).2 ≤ 900) : Ok d := by
 refine ⟨by rw [hl]; exact hc.pos, by rw [hl]; exact hc.le, fun i hi => ?_, fun i hi => ?_⟩
 · rw [hl] at hi
   have := h i hi
   have := hc.rng i hi
   omega
 rw [hl] at hi
 have := h i (by omega)
 have := h (i + 1) hi
 have := hc.inc i hi
 omega
theorem mkl_of : ∀ (k : Mks) (last : Int), ckl last (lows k) = 0 → ckl last (highs k) = 0 → (∀ i, i < k.length → (A (lows k) i).2 ≤ (A (highs k) i).2) → mkl last k = 0 := by
 intro k
 induction k with
 | nil => intro last _ _ _; rfl
 | cons p t ih =>
  intro last h1 h2 h3
  have h1' : ckl last ((p.1, p.2.1) :: lows t) = 0 := h1
  have h2' : ckl last ((p.1, p.2.2) :: highs t) = 0 := h2
  have p0 : p.2.1 ≤ p.2.2 := h3 0 (by simp)
  rw [ckl] at h1' h2'
  dsimp only at h1' h2'
  split at h1'
  · cases h1'
  rename_i g1
  split at h1'
  · cases h1'
  rename_i g2
  split at h1'
  · cases h1'
  rename_i g3
  split at h2'
  · cases h2'
  rename_i g4
  rw [mkl, if_neg (by omega), if_neg g2, if_neg g3]
  exact ih p.1 h1' h2' (fun i hi => h3 (i + 1) (by simpa using hi))
theorem mk_of {k : Mks} (e : Ends (lows k) (highs k)) : mk k = 0 := by
 have p := e.okl.pos
 have l := e.okl.le
 have c1 := ck_of e.okl
 have c2 := ck_of e.okh
 rw [lows_len] at p l
 unfold ck at c1 c2
 rw [lows_len, if_neg (by omega), if_neg (by omega)] at c1
 rw [highs_len, if_neg (by omega), if_neg (by omega)] at c2
 unfold mk
 rw [if_neg (by omega), if_neg (by omega)]
 exact mkl_of k (-1) c1 c2 (fun i hi => e.dv i (by rw [lows_len]; exact hi))
theorem sure_loop {p0 : List (Int × Int)} {m : Int} {c : Card} {K L : Mks} {R lo hi : Card} (hcl : c.length ≤ 36) (ol : Ok lo) (oh : Ok hi) (l1 : lo.length = c.length) (l2 : hi.length = c.length) : ∀ (d v : Nat) (b : Bool), v + d = c.length →
 ((b = true ∧ ∀ i, v ≤ i → i < c.length → ¬ Foldy lo hi i) ∧ F12l1 p0 m c (K, L, R, lo, hi) b v = some true) ∨ ((b = false ∨ ∃ i, v ≤ i ∧ i < c.length ∧ Foldy lo hi i) ∧ F12l1 p0 m c (K, L, R, lo, hi) b v = some false) := by
 intro d
 induction d with
 | zero =>
  intro v b hd
  rw [F12l1, if_neg (by simp; omega)]
  cases b
  · exact .inr ⟨.inl rfl, rfl⟩
  exact .inl ⟨⟨rfl, fun i a b => by omega⟩, rfl⟩
 | succ d ih =>
  intro v b hd
  rw [F12l1, if_pos (by simp; omega), w64_up (by omega)]
  by_cases g : c.length = 1
  · rw [if_pos (by simp [g])]
    rcases ih (v + 1) b (by omega) with ⟨⟨x, y⟩, q⟩ | ⟨x, q⟩
    · exact .inl ⟨⟨x, fun i _ _ z => z.1 (by rw [l1]; exact g)⟩, q⟩
    refine .inr ⟨?_, q⟩
    rcases x with x | ⟨i, a, b', f⟩
    · exact .inl x
    exact .inr ⟨i, by omega, b', f⟩
  have e1 := ol.ends (i := v) (by omega)
  have e2 := oh.ends (i := v) (by omega)
  rw [if_neg (by simp; omega)]
  dsimp only
  rw [F39_eq oh (by omega), F39_eq ol (by omega)]
  simp only [Option.bind_eq_bind, Option.bind_some]
  rw [show (A hi v).1 + (A hi v).2 = ca hi v from rfl, show (B lo v).1 + (B lo v).2 = cb lo v from rfl, w64_in (x := ca hi v) (by omega) (by omega), w64_in (x := cb lo v) (by omega) (by omega)]
  have m97 : ((if b = true then some (decide (ca hi v < cb lo v)) else some false) : Option Bool) = some (b && decide (ca hi v < cb lo v)) := by cases b <;> rfl
  rw [m97, Option.bind_some]
  rcases ih (v + 1) (b && decide (ca hi v < cb lo v)) (by omega) with ⟨⟨x, y⟩, q⟩ | ⟨x, q⟩
  · rw [Bool.and_eq_true, decide_eq_true_eq] at x
    refine .inl ⟨⟨x.1, fun i a b' z => ?_⟩, q⟩
    by_cases t : i = v
    · subst t; have := z.2; omega
    exact y i (by omega) b' z
  refine .inr ⟨?_, q⟩
  rcases x with x | ⟨i, a, b', f⟩
  · rw [Bool.and_eq_false_iff, decide_eq_false_iff_not] at x
    rcases x with x | x
    · exact .inl x
    exact .inr ⟨v, Nat.le_refl _, by omega, by rw [l1]; exact g, by omega⟩
  exact .inr ⟨i, by omega, b', f⟩
end Go.Proofs.Ythpfffijnkmdgaa.plain
namespace Go.Proofs.Ythpfffijnkmdgaa
open Go Go.Cl plain
theorem plain (p0 : List (Int × Int)) (p1 p2 p3 p4 p5 p6 p7 p8 p9 p10 p11 p12 : Int) (wp0 : ∀ x ∈ p0, (Lit.int .u16 x.1).wf = true ∧ (Lit.int .u16 x.2).wf = true) (wp1 : (Lit.int .u8 p1).wf = true) (wp2 : (Lit.int .u8 p2).wf = true) (wp3 : (Lit.int .u8 p3).wf = true) (wp4 : (Lit.int .u8 p4).wf = true) (wp5 : (Lit.int .u8 p5).wf = true) (wp6 : (Lit.int .u8 p6).wf = true) (wp7 : (Lit.int .u8 p7).wf = true) (wp8 : (Lit.int .u8 p8).wf = true) (wp9 : (Lit.int .u8 p9).wf = true) (wp10 : (Lit.int .u8 p10).wf = true) (wp11 : (Lit.int .u8 p11).wf = true) (wp12 : (Lit.int .u16 p12).wf = true) : F12 p0 p1 p2 p3 p4 p5 p6 p7 p8 p9 p10 p11 p12 = some true := by
 obtain ⟨c, f38, hr, hc⟩ := made (fun x hx => ⟨u16_of (wp0 x hx).1, u16_of (wp0 x hx).2⟩) (u8_of wp1)
 obtain ⟨w0, w1⟩ := u16_of wp12
 have hl := hr.le
 obtain ⟨t1, t2, t3⟩ := tmod_in (x := p12) (S := 3600) w0 (by decide)
 have hm : Int.tmod (w64 p12) 3600 = p12 % 3600 := by rw [w64_in (by omega) (by omega), t1]
 obtain ⟨K, L, R, lo, hi, f0, s⟩ := true_loop hr p0 p12 ⟨u8_of wp2, u8_of wp3, u8_of wp4, u8_of wp5, u8_of wp6⟩ ⟨u8_of wp7, u8_of wp8, u8_of wp9, u8_of wp10, u8_of wp11⟩ c.length 0 [] [] [] [] [] (by omega) ⟨rfl, rfl, rfl, rfl, rfl, rfl, rfl, fun i hi => by omega⟩
 have f0' : F12l0 p0 p2 p3 p4 p5 p6 p7 p8 p9 p10 p11 p12 c ([], [], [], [], [], 0) = some (K, L, R, lo, hi) := f0
 unfold F12
 rw [f38]
 simp only [Option.bind_eq_bind, Option.bind_some]
 rw [f0', hm]
 generalize p12 % 3600 = m at t2 t3
 simp only [Option.bind_some]
 obtain ⟨lK, hK, hL, n1, n2, n3, n4, pts⟩ := s
 have olo : Ok lo := ok_same hc n1 fun i g => by have := pts i g; have := hc.rng i g; rw [(pts i g).1]; exact ⟨rfl, by omega, by omega⟩
 have ohi : Ok hi := ok_same hc n2 fun i g => by have := pts i g; have := hc.rng i g; exact ⟨by omega, by omega, by omega⟩
 have oR : Ok R := ok_same hc n4 fun i g => by have := pts i g; have := hc.rng i g; exact ⟨by omega, by omega, by omega⟩
 have oL : Ok (lows L) := ok_same hc n3 fun i g => by have := pts i g; have := hc.rng i g; exact ⟨by omega, by omega, by omega⟩
 have p1' : ∀ i, i < c.length → (A lo i).1 = (A c i).1 ∧ (A lo i).2 = (A c i).2 := fun i g => by rw [(pts i g).1]; exact ⟨rfl, rfl⟩
 have eK : plain.Ends (lows K) (highs K) := by
  rw [lK, hK]
  exact ⟨olo, ohi, by omega, fun i g => by have := pts i (by omega); have := p1' i (by omega); omega, fun i g => by have := pts i (by omega); have := p1' i (by omega); omega⟩
 have eL : plain.Ends (lows L) (highs L) := by
  rw [hL]
  exact ⟨oL, oR, by omega, fun i g => by have := pts i (by omega); omega, fun i g => by have := pts i (by omega); omega⟩
 have e1 : plain.Ends lo (lows L) := ⟨olo, oL, by omega, fun i g => by have := pts i (by omega); have := p1' i (by omega); omega, fun i g => by have := pts i (by omega); have := p1' i (by omega); omega⟩
 have e2 : plain.Ends (lows L) R := by rw [← hL]; exact eL
 have e3 : plain.Ends R hi := ⟨oR, ohi, by omega, fun i g => by have := pts i (by omega); omega, fun i g => by have := pts i (by omega); omega⟩
 have kK : K.length = c.length := by rw [← lK, lows_len] at n1; exact n1
 have kL : L.length = c.length := by rw [lows_len] at n3; exact n3
 have mK := mk_of eK
 have mL := mk_of eL
 have q78 := F78_eq (k := K) (by omega) eK
 rw [kK] at q78
 rcases sure_loop (p0 := p0) (m := p12) (c := c) (K := K) (L := L) (R := R) (by omega) olo ohi n1 n2 c.length 0 true (by omega) with ⟨⟨_, nf⟩, g⟩ | ⟨fd, g⟩
 · have g' : F12l1 p0 p12 c (K, L, R, lo, hi) true 0 = some true := g
   have nK : ∀ i, i < c.length → ¬ Foldy (lows K) (highs K) i := fun i a => by rw [lK, hK]; exact nf i (Nat.zero_le _) a
   have f78 : F78 K = some false := by
    rcases q78 with ⟨⟨i, a, b⟩, _⟩ | ⟨_, q⟩
    · exact absurd b (nK i a)
    exact q
   have nL : ∀ i, i < c.length → ¬ Foldy (lows L) (highs L) i := fun i a z => nf i (Nat.zero_le _) a ⟨by have := z.1; omega, by
    have x1 := (e1.cc (i := i) (by omega)).2
    have x2 := (e3.cc (i := i) (by omega)).1
    have x3 := z.2
    rw [hL] at x3
    omega⟩
   have f78L : F78 L = some false := by
    rcases F78_eq (k := L) (by omega) eL with ⟨⟨i, a, b⟩, _⟩ | ⟨_, q⟩
    · exact absurd b (nL i (by omega))
    exact q
   obtain ⟨sl, sh⟩ := eK.sound (fun i a => nK i (by rw [lows_len] at a; omega))
   obtain ⟨sl2, sR⟩ := eL.sound (fun i a => nL i (by rw [lows_len] at a; omega))
   rw [lK] at sl
   rw [hK] at sh
   rw [hL] at sR
   obtain ⟨a, wa, fa, ra⟩ := sound_alw olo sl t2 t3
   obtain ⟨b, wb, fb, rb⟩ := sound_alw ohi sh t2 t3
   obtain ⟨x, wx, fx, rx⟩ := sound_alw oR sR t2 t3
   obtain ⟨u, wu, fu, ru⟩ := sound_alw oL sl2 t2 t3
   have f34K := F34_good (k := K) (x := a) (y := b) (by omega) mK ⟨t2, t3⟩ f78 (by rw [lK]; exact ra) (by rw [hK]; exact rb)
   have f34L := F34_good (k := L) (x := u) (y := x) (by omega) mL ⟨t2, t3⟩ f78L ru (by rw [hL]; exact rx)
   obtain ⟨sa, sa1, sa2⟩ := alw_small olo wa
   obtain ⟨sb, sb1, sb2⟩ := alw_small ohi wb
   obtain ⟨sx, sx1, sx2⟩ := alw_small oR wx
   obtain ⟨su, su1, su2⟩ := alw_small oL wu
   have au := alw_le e1 sl sl2 wa wu
   have ux := alw_le e2 sl2 sR wu wx
   have xb := alw_le e3 sR sh wx wb
   have ax : a ≤ x := Rat.le_trans au ux
   rw [g', f34K, F36_good (by omega) mK f78]
   simp only [Option.bind_some, beq_self_eq_true, Bool.not_true, Bool.false_eq_true, if_false, bne_self_eq_false]
   rw [fx, fa, fb, f34L]
   simp only [Option.bind_some, beq_self_eq_true, Bool.and_self, Bool.not_true, Bool.false_eq_true, if_false, bne_self_eq_false]
   rw [F46_small sx sx1 sx2, F46_small sa sa1 sa2, F46_small sb sb1 sb2, F46_small su su1 su2]
   simp only [Option.bind_some, Bool.not_true, Bool.false_eq_true, if_false]
   rw [F47_le sa sx ax, F47_le sx sb xb, F47_le sa su au, F47_le su sx ux, F47_le sx sx Rat.le_refl]
   rfl
 have g' : F12l1 p0 p12 c (K, L, R, lo, hi) true 0 = some false := g
 have f78 : F78 K = some true := by
  rcases q78 with ⟨_, q⟩ | ⟨q, _⟩
  · exact q
  rcases fd with fd | ⟨i, _, a, b⟩
  · cases fd
  exact absurd (by rw [lK, hK]; exact b) (q i a)
 rw [g', F34_fold (by omega) mK ⟨t2, t3⟩ f78, F36_fold (by omega) mK f78]
 rfl
end Go.Proofs.Ythpfffijnkmdgaa
