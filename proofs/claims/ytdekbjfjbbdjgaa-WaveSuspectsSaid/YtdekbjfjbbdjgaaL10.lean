/- The plain law of WaveSuspects: without a suspect all rings have the sum 0, without another reading not all; a single changed reading is a suspect. -/
import Derived.Test.YtdekbjfjbbdjgaaG10
import Derived.Test.YtdekbjfjbbdjgaaLR
import Derived.Test.YtdekbjfjbbdjgaaLWh
set_option linter.unusedVariables false
namespace Go.Proofs.Ytdekbjfjbbdjgaa.waveSuspects
open Go Go.Cl Go.Proofs.Ytdekbjfjbbdjgaa.plain
theorem asc_cons {y : Int × Int} {l : List (Int × Int)} (h : Asc (y :: l)) : Asc l := fun j z hz => by
 rcases h (j + 1) z (by simpa using hz) with e | e
 · omega
 cases j with
 | zero => exact .inl rfl
 | succ j => exact .inr e
theorem asc_pair : ∀ {l : List (Int × Int)}, Asc l → l.Pairwise fun a b => a.1 < b.1
 | [], _ => .nil
 | [y], _ => List.pairwise_singleton _ _
 | y :: a :: l, h => by
  have ih := asc_pair (asc_cons h)
  have h1 : y.1 < a.1 := by
   rcases h 1 a rfl with e | e
   · omega
   exact e
  refine List.pairwise_cons.2 ⟨fun z hz => ?_, ih⟩
  rcases List.mem_cons.1 hz with rfl | hz
  · exact h1
  exact Int.lt_trans h1 ((List.pairwise_cons.1 ih).1 z hz)
theorem pair_asc {l : List (Int × Int)} (h : l.Pairwise fun a b => a.1 < b.1) : Asc l := fun j y hy => by
 by_cases c : j = 0
 · exact .inl c
 right
 obtain ⟨hj, rfl⟩ := List.getElem?_eq_some_iff.1 hy
 rw [List.getD_eq_getElem?_getD, List.getElem?_eq_getElem (by omega : j - 1 < l.length)]
 exact List.pairwise_iff_getElem.1 h (j - 1) j (by omega) hj (by omega)
theorem asc_less {rd : List (Int × Int)} (h : Asc rd) (i : Nat) : Asc (lessOf rd i) := by
 refine pair_asc ((asc_pair h).sublist ?_)
 unfold lessOf
 have := List.take_append_drop i rd
 conv => rhs; rw [← this]
 refine List.Sublist.append (List.Sublist.refl _) ?_
 rw [← List.drop_drop]
 exact List.drop_sublist _ _
theorem asc_map {l l' : List (Int × Int)} (h : Asc l) (hm : l'.map (·.1) = l.map (·.1)) : Asc l' := by
 have := asc_pair h
 refine pair_asc ?_
 have h1 : (l.map (·.1)).Pairwise fun a b => a < b := List.pairwise_map.2 this
 rw [← hm] at h1
 exact List.pairwise_map.1 h1
theorem less_mem {rd : List (Int × Int)} {i : Nat} {y : Int × Int} (hy : y ∈ lessOf rd i) : y ∈ rd := by
 rcases List.mem_append.1 hy with hy | hy
 · exact List.mem_of_mem_take hy
 exact List.mem_of_mem_drop hy
section
open Classical
variable {p0 p1 : Int} {p2 : List Int} {p3 p4 p5 p6 p7 p8 p9 p10 p11 p12 : Int} {p13 : List Int} {p14 p15 : Int} {S M : Int} {rd : List (Int × Int)}
def Susp (S M : Int) (rd : List (Int × Int)) (i : Nat) : Prop := ∃ w, plain.Good (edges S M (lessOf rd i)) w
theorem susp_def : suspects S M rd = ((List.range rd.length).filter fun i => decide (Susp S M rd i)).map fun i : Nat => (i : Int) := rfl
noncomputable def upTo (S M : Int) (rd : List (Int × Int)) (v : Nat) : Nat := ((List.range v).filter fun i => decide (Susp S M rd i)).length
theorem upTo_succ (v : Nat) : upTo S M rd (v + 1) = upTo S M rd v + if Susp S M rd v then 1 else 0 := by
 unfold upTo
 rw [List.range_succ, List.filter_append, List.length_append]
 by_cases c : Susp S M rd v
 · rw [if_pos c, List.filter_cons_of_pos (by simpa using c)]; rfl
 rw [if_neg c, List.filter_cons_of_neg (by simpa using c)]; rfl
theorem susp_split {v : Nat} (hv : v < rd.length) : ∃ r : List Nat, suspects S M rd = (((List.range v).filter fun i => decide (Susp S M rd i)) ++ ((if Susp S M rd v then [v] else []) ++ r)).map fun i : Nat => (i : Int) := by
 refine ⟨(List.range' (v + 1) (rd.length - v - 1)).filter fun i => decide (Susp S M rd i), ?_⟩
 rw [susp_def]
 congr 1
 have : List.range rd.length = List.range v ++ (v :: List.range' (v + 1) (rd.length - v - 1)) := by
  rw [List.range_eq_range', List.range_eq_range']
  have e := List.range'_append (s := 0) (m := v) (n := rd.length - v) (step := 1)
  rw [show v + (rd.length - v) = rd.length by omega] at e
  rw [← e]
  congr 1
  rw [show rd.length - v = (rd.length - v - 1) + 1 by omega, List.range'_succ]
  simp
 rw [this, List.filter_append]
 congr 1
 by_cases c : Susp S M rd v
 · rw [if_pos c, List.filter_cons_of_pos (by simpa using c)]; rfl
 rw [if_neg c, List.filter_cons_of_neg (by simpa using c)]; rfl
theorem susp_mem {i : Int} (h : i ∈ suspects S M rd) : 0 ≤ i ∧ Susp S M rd i.toNat := by
 rw [susp_def] at h
 obtain ⟨j, hj, rfl⟩ := List.mem_map.1 h
 have := (List.mem_filter.1 hj).2
 exact ⟨by omega, by simpa using this⟩
theorem ask_loop (h : Rec0 S M rd) (ha : Asc rd) : ∀ (d : Nat) (v : Int), 0 ≤ v → v + d = rd.length →
 F10l0 p0 p1 p2 p3 p4 p5 p6 p7 p8 p9 p10 p11 p12 p13 p14 p15 (S, M, rd) (suspects S M rd, 0) (upTo S M rd v.toNat) v = some (.inr ((suspects S M rd).length : Int)) := by
 have hl := h.len
 have hsl := susp_len (S := S) (M := M) (rd := rd)
 intro d
 induction d with
 | zero =>
  intro v h0 hd
  rw [F10l0, if_neg (by simp; omega)]
  have : v.toNat = rd.length := by omega
  rw [this, susp_def, List.length_map]
  rfl
 | succ d ih =>
  intro v h0 hd
  have hv : v.toNat < rd.length := by omega
  have w1 : w64 (v + 1) = v + 1 := w64_in (by omega) (by omega)
  have ihv := ih (v + 1) (by omega) (by omega)
  rw [show (v + 1).toNat = v.toNat + 1 by omega, upTo_succ] at ihv
  obtain ⟨b, f, g⟩ := rings_good (h.less v.toNat) (asc_less ha v.toNat)
  obtain ⟨r, er⟩ := susp_split (S := S) (M := M) hv
  have hlen : (suspects S M rd).length = upTo S M rd v.toNat + ((if Susp S M rd v.toNat then [v.toNat] else []) ++ r).length := by rw [er, List.length_map, List.length_append]; rfl
  have htk : (List.take v.toNat rd ++ List.drop (v + 1).toNat rd) = lessOf rd v.toNat := by rw [show (v + 1).toNat = v.toNat + 1 by omega]; rfl
  rw [F10l0, if_pos (by simp; omega), if_pos ⟨h0, by simp; omega⟩, if_pos (by simp; omega), w1, if_pos ⟨by omega, by simp; omega⟩, if_pos (by simp; omega), htk, f]
  simp only [Option.bind_eq_bind, Option.bind_some]
  have w2 : w64 ((upTo S M rd v.toNat : Int) + 1) = (upTo S M rd v.toNat : Int) + 1 := w64_in (by omega) (by omega)
  by_cases c : Susp S M rd v.toNat
  · have hb : b = true := g.2 c
    rw [if_pos c] at hlen ihv er
    simp only [List.cons_append, List.nil_append, List.length_cons] at hlen
    have hat : (suspects S M rd).getD (upTo S M rd v.toNat : Int).toNat 0 = v := by
     rw [er, List.getD_eq_getElem?_getD, List.map_append, List.getElem?_append_right (by rw [List.length_map]; exact Nat.le_refl _), List.length_map]
     have : (upTo S M rd v.toNat : Int).toNat - ((List.range v.toNat).filter fun i => decide (Susp S M rd i)).length = 0 := by show _ - upTo S M rd v.toNat = 0; omega
     rw [this]
     show (v.toNat : Int) = v
     omega
    rw [if_pos (by simp; omega), if_pos ⟨by omega, by omega⟩, hat, hb]
    simp only [Option.bind_some, if_true, beq_self_eq_true, Bool.false_eq_true, if_false]
    rw [w2]
    exact ihv
  have hb : b = false := by
   cases b with
   | true => exact absurd (g.1 rfl) c
   | false => rfl
  rw [if_neg c] at hlen ihv er
  by_cases k : (upTo S M rd v.toNat : Int) < ((suspects S M rd).length : Int)
  · have hne : (suspects S M rd).getD (upTo S M rd v.toNat : Int).toNat 0 ≠ v := fun e => by
     have hm : (suspects S M rd).getD (upTo S M rd v.toNat : Int).toNat 0 ∈ suspects S M rd := by
      rw [List.getD_eq_getElem?_getD, List.getElem?_eq_getElem (by omega)]
      exact List.getElem_mem _
     rw [e] at hm
     exact c (susp_mem hm).2
    rw [if_pos (by simpa using k), if_pos ⟨by omega, k⟩, hb]
    simp only [Bool.false_eq_true, if_false]
    rw [if_neg (by simpa using hne)]
    simp only [Option.bind_some, Bool.false_eq_true, if_false]
    exact ihv
  rw [if_neg (by simpa using k), hb]
  simp only [Option.bind_some, Bool.false_eq_true, if_false]
  exact ihv
theorem found_loop {r70 : (Int × Int × (List (Int × Int))) × (List Int) × (List Int)} {l : List Int} {e : Int} {n : Int} (hn : Int.tmod (w64 p14) (r70.1.2.2.length : Int) = n) (hl : l.length ≤ 1000) : ∀ (d : Nat) (v : Int) (b : Bool), 0 ≤ v → v + d = l.length →
 F10l1 p2 p13 p14 r70 (l, e) b v = some (b || decide (n ∈ l.drop v.toNat)) := by
 intro d
 induction d with
 | zero => intro v b h0 hd; rw [F10l1, if_neg (by simp; omega), List.drop_of_length_le (by omega)]; simp
 | succ d ih =>
  intro v b h0 hd
  have w1 : w64 (v + 1) = v + 1 := w64_in (by omega) (by omega)
  have hdr : l.drop v.toNat = l.getD v.toNat 0 :: l.drop (v.toNat + 1) := by
   rw [List.drop_eq_getElem_cons (by omega), List.getD_eq_getElem?_getD, List.getElem?_eq_getElem (by omega)]; rfl
  rw [F10l1, if_pos (by simp; omega), if_pos ⟨h0, by simp; omega⟩, hn, w1, hdr]
  simp only [Option.bind_eq_bind, Option.bind_some]
  cases b with
  | true =>
   simp only [if_true, Option.bind_some]
   rw [ih (v + 1) _ (by omega) (by omega)]
   simp
  | false =>
   simp only [Bool.false_eq_true, if_false, Option.bind_some]
   rw [ih (v + 1) _ (by omega) (by omega), show (v + 1).toNat = v.toNat + 1 by omega]
   generalize List.getD l v.toNat 0 = q
   by_cases c : q = n
   · subst c; simp
   simp [c, Ne.symm c]
end
theorem set_less {rd : List (Int × Int)} {k : Nat} {y : Int × Int} : lessOf (rd.set k y) k = lessOf rd k := by
 unfold lessOf
 rw [List.take_set_of_le (Nat.le_refl _), List.drop_set_of_lt (by omega)]
theorem plain (p0 : Int) (p1 : Int) (p2 : List Int) (p3 p4 p5 p6 p7 p8 p9 p10 p11 p12 : Int) (p13 : List Int) (p14 p15 : Int)
 (wp0 : (Lit.int .u8 p0).wf = true) (wp1 : (Lit.int .u8 p1).wf = true) (wp2 : ∀ x ∈ p2, (Lit.int .u8 x).wf = true) (wp3 : (Lit.int .u8 p3).wf = true) (wp4 : (Lit.int .u8 p4).wf = true) (wp5 : (Lit.int .u8 p5).wf = true)
 (wp6 : (Lit.int .u8 p6).wf = true) (wp7 : (Lit.int .u8 p7).wf = true) (wp8 : (Lit.int .u8 p8).wf = true) (wp9 : (Lit.int .u8 p9).wf = true) (wp10 : (Lit.int .u8 p10).wf = true) (wp11 : (Lit.int .u8 p11).wf = true) (wp12 : (Lit.int .u8 p12).wf = true)
 (wp13 : ∀ x ∈ p13, (Lit.int .u8 x).wf = true) (wp14 : (Lit.int .u8 p14).wf = true) (wp15 : (Lit.int .u8 p15).wf = true)
 (q2 : p2.length < 9223372036854775808) (q13 : p13.length < 9223372036854775808) :
 F10 p0 p1 p2 p3 p4 p5 p6 p7 p8 p9 p10 p11 p12 p13 p14 p15 = some true := by
 have bw : ∀ x ∈ [p3, p4, p5, p6, p7, p8, p9, p10, p11, p12], B8 x := fun x hx => by
  simp only [List.mem_cons, List.not_mem_nil, or_false] at hx
  rcases hx with rfl | rfl | rfl | rfl | rfl | rfl | rfl | rfl | rfl | rfl <;> exact b8_of (by assumption)
 have b2 : ∀ x ∈ p2, B8 x := fun x hx => b8_of (wp2 x hx)
 have b13 : ∀ x ∈ p13, B8 x := fun x hx => b8_of (wp13 x hx)
 obtain ⟨S, M, rd, sun, moon, a1, s, m, ls, lm, us, um, a2, hasc, a4⟩ := made (p13 := p13) (b8_of wp0) (b8_of wp1) b2 bw
 obtain ⟨X, Y, wr, d1, hw, ascw, hw40⟩ := wrong_made40 (p0 := p0) (p1 := p1) (p2 := p2) (p13 := p13) (b8_of wp0) (b8_of wp1) b2 bw b13 q13
 obtain ⟨t0, t1⟩ := b8_of wp14
 obtain ⟨l0, l1⟩ := b8_of wp15
 have h := made_rec s m ls lm us um a2 a4
 have hv : ∀ y ∈ rd, -255 ≤ y.2 ∧ y.2 ≤ 255 := fun y hy => made_val s.1 m.1 ls lm us um (a4 y hy)
 have su1 := susp_eq hw (check_ok hw ascw)
 have ask := ask_loop (p0 := p0) (p1 := p1) (p2 := p2) (p3 := p3) (p4 := p4) (p5 := p5) (p6 := p6) (p7 := p7) (p8 := p8) (p9 := p9) (p10 := p10) (p11 := p11) (p12 := p12) (p13 := p13) (p14 := p14) (p15 := p15) hw ascw wr.length 0 (Int.le_refl _) (by omega)
 have hu0 : ((upTo X Y wr (0 : Int).toNat : Nat) : Int) = 0 := rfl
 rw [hu0] at ask
 have g : plain.Good (edges S M rd) (fun i => if i < S then at0 sun i else at0 moon (i - S)) := good_rd.2 fun y hy => by
  have e := edge_in h hy
  unfold goodR
  dsimp only
  rw [if_pos e.2.1, if_neg (by omega), show S + Int.tmod y.1 M - S = Int.tmod y.1 M by omega]
  exact (a4 y hy).2.symm
 unfold F10
 rw [d1]
 simp only [Option.bind_eq_bind, Option.bind_some]
 rw [su1]
 simp only [Option.bind_some, bne_self_eq_false, Bool.false_eq_true, if_false]
 rw [ask]
 simp only [Option.bind_some, bne_self_eq_false, Bool.false_eq_true, if_false]
 rw [a1]
 simp only [Option.bind_some]
 by_cases c : rd.length = 0
 · rw [if_pos (by simp [c])]
   rfl
 have w14 : w64 p14 = p14 := w64_in (by omega) (by omega)
 have w15 : w64 p15 = p15 := w64_in (by omega) (by omega)
 have tl := tmod_in (S := (rd.length : Int)) t0 (by omega)
 generalize hn : Int.tmod p14 (rd.length : Int) = n at tl
 have hm := getD_mem (rd := rd) (j := n.toNat) (by omega)
 have hvn := hv _ hm
 have wv : w64 ((rd.getD n.toNat (0, 0)).2 + p15) = (rd.getD n.toNat (0, 0)).2 + p15 := w64_in (by omega) (by omega)
 rw [if_neg (by simpa using c), w14, w15, if_neg (by omega), hn, if_pos tl]
 rw [wv]
 have hset : ∀ y ∈ rd.set n.toNat ((rd.getD n.toNat (0, 0)).1, (rd.getD n.toNat (0, 0)).2 + p15), ∃ z ∈ rd, y.1 = z.1 ∧ -255 ≤ y.2 ∧ y.2 ≤ 510 := fun y hy => by
  rcases List.mem_or_eq_of_mem_set hy with hy | rfl
  · have := hv y hy
    exact ⟨y, hy, rfl, by omega, by omega⟩
  exact ⟨_, hm, rfl, by dsimp only; omega, by dsimp only; omega⟩
 have h2 : Rec0 S M (rd.set n.toNat ((rd.getD n.toNat (0, 0)).1, (rd.getD n.toNat (0, 0)).2 + p15)) := ⟨h.s, h.m, by rw [List.length_set]; exact h.len, fun y hy => by
  obtain ⟨z, hz, e, _⟩ := hset y hy
  rw [e]
  exact h.hour z hz, fun y hy => by
  obtain ⟨z, hz, e, b1, b2⟩ := hset y hy
  omega⟩
 have asc2 : Asc (rd.set n.toNat ((rd.getD n.toNat (0, 0)).1, (rd.getD n.toNat (0, 0)).2 + p15)) := asc_map hasc (by
  rw [List.map_set]
  have : (rd.getD n.toNat (0, 0)).1 = (rd.map (·.1))[n.toNat]'(by rw [List.length_map]; omega) := by
   rw [List.getElem_map, List.getD_eq_getElem?_getD, List.getElem?_eq_getElem (by omega)]; rfl
  dsimp only
  rw [this, List.set_getElem_self])
 have su2 := susp_eq h2 (check_ok h2 asc2)
 have hin : n ∈ suspects S M (rd.set n.toNat ((rd.getD n.toNat (0, 0)).1, (rd.getD n.toNat (0, 0)).2 + p15)) := by
  rw [susp_def]
  refine List.mem_map.2 ⟨n.toNat, List.mem_filter.2 ⟨List.mem_range.2 (by rw [List.length_set]; omega), ?_⟩, by omega⟩
  have : Susp S M (rd.set n.toNat ((rd.getD n.toNat (0, 0)).1, (rd.getD n.toNat (0, 0)).2 + p15)) n.toNat := by
   unfold Susp
   rw [set_less]
   exact ⟨_, good_rd.2 fun y hy => good_rd.1 g y (less_mem hy)⟩
  simpa using this
 have hsl := susp_len (S := S) (M := M) (rd := rd.set n.toNat ((rd.getD n.toNat (0, 0)).1, (rd.getD n.toNat (0, 0)).2 + p15))
 rw [List.length_set] at hsl
 rw [su2]
 simp only [Option.bind_some]
 rw [found_loop (n := n) (by rw [w14]; exact hn) (by omega) _ 0 false (Int.le_refl _) (by rw [Int.zero_add])]
 simp only [Int.toNat_zero, List.drop_zero, hin, Option.bind_some, decide_true, Bool.or_true, beq_self_eq_true, if_true]
 rfl
end Go.Proofs.Ytdekbjfjbbdjgaa.waveSuspects
