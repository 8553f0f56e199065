/- The plain law of WaveEither: a record is the sum of two waves just if all rings have the sum 0. -/
import Derived.Test.YtdekbjfjbbdjgaaG6
import Derived.Test.YtdekbjfjbbdjgaaLU
import Derived.Test.YtdekbjfjbbdjgaaLN
set_option linter.unusedVariables false
namespace Go.Proofs.Ytdekbjfjbbdjgaa.waveEither
open Go Go.Cl Go.Proofs.Ytdekbjfjbbdjgaa.plain
theorem take_at {W : List Int} {S i : Int} (h0 : 0 ≤ i) (hi : i < S) : (W.take S.toNat).getD i.toNat 0 = at0 W i := by
 unfold at0
 rw [List.getD_eq_getElem?_getD, List.getD_eq_getElem?_getD, List.getElem?_take, if_pos (by omega)]
theorem drop_at {W : List Int} {S i : Int} (h0 : 0 ≤ i) (hS : 0 ≤ S) : (W.drop S.toNat).getD i.toNat 0 = at0 W (S + i) := by
 unfold at0
 rw [List.getD_eq_getElem?_getD, List.getD_eq_getElem?_getD, List.getElem?_drop, show (S + i).toNat = S.toNat + i.toNat by omega]
section
variable {S M : Int} {rd : List (Int × Int)} {out : Out} {P W : List Int} {p2 p13 : List Int}
theorem give_loop (B : Both S M rd out P W) (hg : plain.Good (edges S M rd) (at0 W)) : ∀ (d : Nat) (v : Int), 0 ≤ v → v + d = rd.length → F6l0 p2 p13 (S, M, rd) (W.take S.toNat, W.drop S.toNat, 0) v = some (.inr ()) := by
 have hs := B.h.s
 have hm := B.h.m
 have hl := B.h.len
 have lw := B.lw
 intro d
 induction d with
 | zero => intro v h0 hd; rw [F6l0, if_neg (by simp; omega)]
 | succ d ih =>
  intro v h0 hd
  rw [F6l0, if_pos (by simp only [decide_eq_true_eq]; omega), if_pos ⟨h0, by dsimp only; omega⟩]
  simp only [Option.bind_eq_bind, Option.bind_some]
  have hym := getD_mem (rd := rd) (j := v.toNat) (by omega)
  have e := edge_in B.h hym
  have g := good_rd.1 hg _ hym
  unfold goodR at g
  generalize rd.getD v.toNat (0, 0) = y at hym e g ⊢
  have b1 := B.br (Int.tmod y.1 S) (by omega) (by omega)
  have b2 := B.br (S + Int.tmod y.1 M) (by omega) (by omega)
  rw [if_neg (by omega), if_pos ⟨e.1, by rw [List.length_take]; omega⟩, if_neg (by omega), if_pos ⟨e.2.2.1, by rw [List.length_drop]; omega⟩, take_at e.1 e.2.1, drop_at e.2.2.1 (by omega), w64_in (by omega) (by omega), g,
   if_neg (by simp), w64_in (by omega) (by omega)]
  exact ih (v + 1) (by omega) (by omega)
theorem zero_loop (B : Both S M rd out P W) {N : List Int} (ln : (N.length : Int) = S + M) (hN : ∀ x, 0 ≤ x → x < S + M → at0 N x = at0 P x) : ∀ (d : Nat) (v : Int), 0 ≤ v → v + d = S + M → F6l1 p2 p13 (S, M, rd) (W.take S.toNat, W.drop S.toNat, 0) N v = some (.inr ()) := by
 have hs := B.h.s
 have hm := B.h.m
 have lw := B.lw
 intro d
 induction d with
 | zero => intro v h0 hd; rw [F6l1, if_neg (by simp; omega)]
 | succ d ih =>
  intro v h0 hd
  rw [F6l1, if_pos (by simp only [decide_eq_true_eq]; omega), if_pos ⟨h0, by omega⟩]
  simp only [Option.bind_eq_bind, Option.bind_some]
  have hn : N.getD v.toNat 0 = at0 P v := hN v h0 (by omega)
  have wv : w64 (v + 1) = v + 1 := w64_in (by omega) (by omega)
  rw [hn, wv]
  by_cases c : v = at0 P v
  · have z := B.sr.zero v h0 (by omega)
    rw [← c] at z
    rw [if_pos (by rw [← c]; simp)]
    by_cases cs : v < S
    · rw [if_pos (by simpa using cs), if_pos ⟨h0, by rw [List.length_take]; omega⟩, take_at h0 cs, z, if_neg (by decide), if_neg (by simp only [decide_eq_true_eq]; omega)]
      simp only [Option.bind_some, Bool.false_eq_true, if_false]
      exact ih (v + 1) (by omega) (by omega)
    have w : w64 (v - S) = v - S := w64_in (by omega) (by omega)
    rw [if_neg (by simpa using cs), if_pos (by simp only [decide_eq_true_eq]; omega), w, if_pos ⟨by omega, by rw [List.length_drop]; omega⟩, drop_at (by omega) (by omega), show S + (v - S) = v by omega, z]
    simp only [Option.bind_some, bne_self_eq_false, Bool.false_eq_true, if_false]
    exact ih (v + 1) (by omega) (by omega)
  rw [if_neg (by simpa using c)]
  simp only [Option.bind_some, Bool.false_eq_true, if_false]
  exact ih (v + 1) (by omega) (by omega)
end
theorem plain (p0 : Int) (p1 : Int) (p2 : List Int) (p3 p4 p5 p6 p7 p8 p9 p10 p11 p12 : Int) (p13 : List Int)
 (wp0 : (Lit.int .u8 p0).wf = true) (wp1 : (Lit.int .u8 p1).wf = true) (wp2 : ∀ x ∈ p2, (Lit.int .u8 x).wf = true) (wp3 : (Lit.int .u8 p3).wf = true) (wp4 : (Lit.int .u8 p4).wf = true) (wp5 : (Lit.int .u8 p5).wf = true)
 (wp6 : (Lit.int .u8 p6).wf = true) (wp7 : (Lit.int .u8 p7).wf = true) (wp8 : (Lit.int .u8 p8).wf = true) (wp9 : (Lit.int .u8 p9).wf = true) (wp10 : (Lit.int .u8 p10).wf = true) (wp11 : (Lit.int .u8 p11).wf = true) (wp12 : (Lit.int .u8 p12).wf = true)
 (wp13 : ∀ x ∈ p13, (Lit.int .u8 x).wf = true) (q2 : p2.length < 9223372036854775808) (q13 : p13.length < 9223372036854775808) :
 F6 p0 p1 p2 p3 p4 p5 p6 p7 p8 p9 p10 p11 p12 p13 = some true := by
 obtain ⟨S, M, rd, a1, h, hasc⟩ := wrong_made (b8_of wp0) (b8_of wp1) (fun x hx => b8_of (wp2 x hx)) (p3 := p3) (p4 := p4) (p5 := p5) (p6 := p6) (p7 := p7) (p8 := p8) (p9 := p9) (p10 := p10) (p11 := p11) (p12 := p12) (fun x hx => by
  simp only [List.mem_cons, List.not_mem_nil, or_false] at hx
  rcases hx with rfl | rfl | rfl | rfl | rfl | rfl | rfl | rfl | rfl | rfl <;> exact b8_of (by assumption)) (fun x hx => b8_of (wp13 x hx)) q13
 obtain ⟨out, P, W, B⟩ := both_of h hasc
 obtain ⟨b, r1, r2⟩ := rings_good h hasc
 obtain ⟨k, f, g⟩ := B.fits
 have hs := h.s
 have hm := h.m
 have lw := B.lw
 unfold F6
 rw [a1]
 simp only [Option.bind_eq_bind, Option.bind_some]
 rw [r1]
 simp only [Option.bind_some]
 rcases g with ⟨_, _, g, _, g22⟩ | ⟨_, _, _, g, _, g22, _⟩
 · have hb : b = true := r2.2 ⟨_, g⟩
   subst hb
   rw [B.waves.1 g, B.good_clash g]
   simp only [Option.bind_some, if_true, Bool.false_eq_true, if_false, bne_self_eq_false, List.length_nil]
   rw [if_neg (by decide), g22]
   simp only [Option.bind_some, bne_self_eq_false, Bool.false_eq_true, if_false]
   have l1 : ((W.take S.toNat).length : Int) = S := by rw [List.length_take]; omega
   have l2 : ((W.drop S.toNat).length : Int) = M := by rw [List.length_drop]; omega
   rw [l1, l2]
   simp only [bne_self_eq_false, Bool.false_eq_true, if_false, Option.bind_some]
   rw [give_loop B g rd.length 0 (Int.le_refl _) (by omega)]
   simp only [Option.bind_some]
   obtain ⟨N, n1, n2, n3⟩ := nodes_ok h B.sr
   rw [n1]
   simp only [Option.bind_some]
   rw [zero_loop B n2 n3 (S + M).toNat 0 (Int.le_refl _) (by omega)]
   rfl
 have hb : b = false := by
  cases b with
  | false => rfl
  | true =>
   obtain ⟨w, hw⟩ := r2.1 rfl
   exact absurd (B.sr.good (edges_ends h) hw) g
 subst hb
 obtain ⟨r, c1, c2, c3, m, Z, c4, c5, c6, c7, _⟩ := B.bad_clash g
 have hv := trail_verdict c4 c5 c6 c2 c3
 rw [B.waves.2 g, c1]
 simp only [Option.bind_some, Bool.false_eq_true, if_false, if_true]
 rw [if_pos (by decide), if_pos (by decide), g22]
 simp only [Option.bind_some]
 rw [if_pos (by decide), prog_verify h B.co r (by omega), hv]
 simp only [Option.bind_some]
 rw [if_pos (by decide), clashes h r c3 c7, hv]
 rfl
end Go.Proofs.Ytdekbjfjbbdjgaa.waveEither
