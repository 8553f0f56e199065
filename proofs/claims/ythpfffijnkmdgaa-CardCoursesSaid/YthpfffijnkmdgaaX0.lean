/- Sorting at most twelve elements. -/
import Derived.Test.YthpfffijnkmdgaaTsZ
import Derived.Test.YthpfffijnkmdgaaCB
import Derived.KernelRfl
set_option linter.unusedVariables false
set_option linter.unusedSimpArgs false
set_option maxRecDepth 100000
set_option maxHeartbeats 4000000
namespace Go.Proofs.Ythpfffijnkmdgaa
open Go Go.Cl
def anyV (b n : Nat) : Value := .slice (some ⟨b, 0, none⟩) n ANY
theorem Rn.anyV {f : Nat → Nat × Nat} {n i i' c c' : Nat} (hi : i < n) (hf : f i = (i', 0)) (hc : c = c') : Rn true f n (anyV i c) (anyV i' c') := by
 subst hc
 have := Rn.any (p := true) (f := f) (n := n) i 0 0 c ANY ANY hi (by rw [hf]) rfl (by decide)
 rw [hf] at this
 exact this
theorem rav {f : Nat → Nat × Nat} {n i i' c c' : Nat} (hc : c = c' := by simp only [List.length_set]) (hi : i < n := by exact nl rfl) (hf : f i = (i', 0) := by exact rfl) : Rn true f n (anyV i c) (anyV i' c') := Rn.anyV hi hf hc
def SortFin (P : Program) (fn : Func) (h1 : List Blk) (v : Value) : Post := fun e a h => (e = .normal ∨ e = .ret) ∧ a.marks = [] ∧ h = h1 ∧ cResults P fn a h = some v
def e101 (x : I2) : List Value := [.int .i64 x.1, .int .i64 x.2]
abbrev lb101 (l : List (I2)) : Blk := .cells 101 (List.flatMap e101 l)
noncomputable def c110 : Code := Try.f110.code
def S110_7 (v138 : List I2) (p1 p2 v58 v137 : Int) : CAct := (st 53 [(0, anyV 0 v138.length), (1, iv p1), (2, iv p2), (3, fn 87), (8, iv v58), (9, iv v137), (34, .bool true), (37, anyV 0 v138.length), (38, iv v137), (39, anyV 0 v138.length), (40, iv v137), (41, iv (w64 (v137 - 1))), (42, anyV 0 v138.length), (43, iv v137), (44, iv (w64 (v137 - 1)))])
def S110_6 (v138 : List I2) (p1 p2 v58 v137 : Int) : CAct := sx (S110_7 v138 p1 p2 v58 v137) [(45, pt 0 (0 + (w64 (v137 - 1)).toNat * 2))]
def S110_5 (v138 : List I2) (p1 p2 v58 v137 : Int) (o168 : I2) : CAct := sx (S110_6 v138 p1 p2 v58 v137) [(46, ag [iv o168.1, iv o168.2])]
def S110_4 (v138 : List I2) (p1 p2 v58 v137 : Int) (o168 : I2) : CAct := sx (S110_5 v138 p1 p2 v58 v137 o168) [(47, anyV 0 v138.length), (48, iv v137)]
def S110_3 (v138 : List I2) (p1 p2 v58 v137 : Int) (o168 : I2) : CAct := sx (S110_4 v138 p1 p2 v58 v137 o168) [(49, pt 0 (0 + v137.toNat * 2))]
def S110_2 (v138 : List I2) (p1 p2 v58 v137 : Int) (o168 o171 : I2) : CAct := sx (S110_3 v138 p1 p2 v58 v137 o168) [(50, ag [iv o171.1, iv o171.2])]
def S110_1 (v138 : List I2) (p1 p2 v58 v137 : Int) (o168 o171 : I2) : CAct := sx (S110_2 v138 p1 p2 v58 v137 o168 o171) [(51, pt 0 (0 + v137.toNat * 2))]
def S110_0 (v138 : List I2) (p1 p2 v58 v137 : Int) (o168 o171 : I2) : CAct := sx (S110_1 v138 p1 p2 v58 v137 o168 o171) [(52, pt 0 (0 + (w64 (v137 - 1)).toNat * 2))]
def H110_8 (v138 : List I2) (v137 : Int) (o168 o171 : I2) : List Blk := [lb101 (List.set (List.set v138 v137.toNat (o168.1, o168.2)) (w64 (v137 - 1)).toNat (o171.1, o171.2))]
def H110_9 (v138 : List I2) (v137 : Int) (o168 : I2) : List Blk := [lb101 (List.set v138 v137.toNat (o168.1, o168.2))]
def F110l1 (p1 p2 v58 v137 : Int) (v138 : List I2) : Option (List I2) :=
 (
  if decide (v137 > p1) then
   if (0 : Int) ≤ v137 ∧ v137 < (v138.length : Int) then
    some (List.getD v138 v137.toNat (0, 0)) >>= fun o159 =>
    if (0 : Int) ≤ w64 (v137 - 1) ∧ w64 (v137 - 1) < (v138.length : Int) then
     some (List.getD v138 (w64 (v137 - 1)).toNat (0, 0)) >>= fun o162 =>
     F87 o159.1 o159.2 o162.1 o162.2 >>= fun r164 =>
     some (decide (r164 < 0))
    else none
   else none
  else
   some (false)
 : Option Bool) >>= fun m166 =>
 if m166 then
  if (0 : Int) ≤ w64 (v137 - 1) ∧ w64 (v137 - 1) < (v138.length : Int) then
   some (List.getD v138 (w64 (v137 - 1)).toNat (0, 0)) >>= fun o168 =>
   if (0 : Int) ≤ v137 ∧ v137 < (v138.length : Int) then
    some (List.getD v138 v137.toNat (0, 0)) >>= fun o171 =>
    F110l1 p1 p2 v58 (w64 (v137 - 1)) (List.set (List.set v138 v137.toNat (o168.1, o168.2)) (w64 (v137 - 1)).toNat (o171.1, o171.2))
   else none
  else none
 else
  some v138
 partial_fixpoint
def F110l0 (p1 p2 v58 : Int) (v59 : List I2) : Option (List I2) :=
 if decide (v58 < p2) then
  F110l1 p1 p2 v58 v58 v59 >>= fun r174 =>
  F110l0 p1 p2 (w64 (v58 + 1)) r174
 else
  some v59
 partial_fixpoint
def F110 (p0 : List I2) (p1 p2 : Int) : Option (List I2) :=
 F110l0 p1 p2 (w64 (p1 + 1)) p0 >>= fun r176 =>
 some r176
def P110l1 (p1 p2 v58 : Int) (r : List I2) : Post := fun e a h => e = .exit 2 ∧ Wk Pg 0 1 a h (st 53 [(0, anyV 0 r.length), (1, iv p1), (2, iv p2), (3, fn 87), (8, iv v58)]) [lb101 r]
theorem L110l1 (p1 p2 v58 v137 : Int) (v138 r : List I2) (hF : F110l1 p1 p2 v58 v137 v138 = some r) : TL Pg 0 1 c110.s2.bd.bd.s2.s1.bd.s2.bd.bd (st 53 [(0, anyV 0 v138.length), (1, iv p1), (2, iv p2), (3, fn 87), (8, iv v58), (9, iv v137)]) [lb101 v138] (P110l1 p1 p2 v58 r) := by
 refine F110l1.partial_correctness p1 p2 v58 (motive := fun v137 v138 r => TL Pg 0 1 c110.s2.bd.bd.s2.s1.bd.s2.bd.bd (st 53 [(0, anyV 0 v138.length), (1, iv p1), (2, iv p2), (3, fn 87), (8, iv v58), (9, iv v137)]) [lb101 v138] (P110l1 p1 p2 v58 r)) ?_ v137 v138 r hF
 clear hF r v137 v138
 intro again ih v137 v138 r hF
 refine TL.round (TS.sq (TS.sq ?_))
 obtain ⟨m166, hm173, hF⟩ := of_do hF
 have hK : NX Pg 0 1 [.sq c110.s2.bd.bd.s2.s1.bd.s2.bd.bd.s1.s2, .sq c110.s2.bd.bd.s2.s1.bd.s2.bd.bd.s2] (Rd Pg 0 1 c110.s2.bd.bd.s2.s1.bd.s2.bd.bd (P110l1 p1 p2 v58 r)) .normal (st 53 [(0, anyV 0 v138.length), (1, iv p1), (2, iv p2), (3, fn 87), (8, iv v58), (9, iv v137), (34, .bool m166)]) [lb101 v138] := by
  refine NX.sq ?_
  cases m166 with
  | true =>
   replace hF := of_pos hF rfl
   refine TS.cdT (.tmp 34) (TS.sk (NX.sq (TS.sq (TS.bk 3 ?_))))
   obtain ⟨hg167, hF⟩ := of_guard hF
   obtain ⟨o168, h169, hF⟩ := of_do hF
   replace h169 := sj h169
   obtain ⟨hg170, hF⟩ := of_guard hF
   obtain ⟨o171, h172, hF⟩ := of_do hF
   replace h172 := sj h172
   refine TS.drawE (id := 6) (b := true) (ops := c110.s2.bd.bd.s2.s1.bd.s2.bd.bd.s2.s1.bd.rops) (fin := (qs (S110_1 v138 p1 p2 v58 v137 o168 o171) (H110_9 v138 v137 o168) [] [(15, 0)])) (fin2 := (qs (S110_1 v138 p1 p2 v58 v137 o168 o171) (H110_9 v138 v137 o168) [] [(15, 0)])) (a1 := (S110_0 v138 p1 p2 v58 v137 o168 o171)) (h1 := (H110_8 v138 v137 o168 o171)) [] (fun e he => by cases he) mixed (by kernel_rfl) rfl 16 (by kernel_rfl) [(15, 0)] ?_ rfl (.inr ⟨?_, (by kernel_rfl)⟩) ?_ ?_
   iterate 2
    · refine QI.r (qs (S110_7 v138 p1 p2 v58 v137) [lb101 v138] [] []) 8 (QI.o { val := pt 0 (0 + (w64 (v137 - 1)).toNat * 2) } (qs (S110_6 v138 p1 p2 v58 v137) [lb101 v138] [] []) (q_ixS 0 0 ((w64 (v137 - 1)).toNat * 2) (by kernel_rfl) hg167) (QI.o { val := ag [iv o168.1, iv o168.2] } (qs (S110_5 v138 p1 p2 v58 v137 o168) [lb101 v138] [] []) (q_nA Pg [lb101 v138] 101 0 (0 + (w64 (v137 - 1)).toNat * 2) v138 e101 2 101 (w64 (v137 - 1)).toNat (0, 0) h169) (QI.r (qs (S110_4 v138 p1 p2 v58 v137 o168) [lb101 v138] [] []) 2 (QI.o { val := pt 0 (0 + v137.toNat * 2) } (qs (S110_3 v138 p1 p2 v58 v137 o168) [lb101 v138] [] []) (q_ixS 0 0 (v137.toNat * 2) (by kernel_rfl) hg170) (QI.o { val := ag [iv o171.1, iv o171.2] } (qs (S110_2 v138 p1 p2 v58 v137 o168 o171) [lb101 v138] [] []) (q_nA Pg [lb101 v138] 101 0 (0 + v137.toNat * 2) v138 e101 2 101 v137.toNat (0, 0) h172) (QI.o { val := pt 0 (0 + v137.toNat * 2) } (qs (S110_1 v138 p1 p2 v58 v137 o168 o171) [lb101 v138] [] []) (q_ixS 0 0 (v137.toNat * 2) (by kernel_rfl) hg170) ?_))))))
      exact QI.o { val := undef, upd := some (0, lb101 (List.set v138 v137.toNat (o168.1, o168.2))) } (qs (S110_1 v138 p1 p2 v58 v137 o168 o171) (H110_9 v138 v137 o168) [] [(15, 0)]) (q_stP Pg 0 [lb101 v138] 101 0 (0 + v137.toNat * 2) v138 e101 2 101 v137.toNat 0 2 (ag [iv o168.1, iv o168.2]) [iv o168.1, iv o168.2] (0, 0) (o168.1, o168.2) (by first | omega | (simp <;> omega))) (QI.done (by kernel_rfl))
   · refine SI.o { val := pt 0 (0 + (w64 (v137 - 1)).toNat * 2) } (S110_0 v138 p1 p2 v58 v137 o168 o171) (H110_9 v138 v137 o168) (q_ixS 0 0 ((w64 (v137 - 1)).toNat * 2) (by kernel_rfl) hg167) ?_
     exact SI.o { val := undef, upd := some (0, lb101 (List.set (List.set v138 v137.toNat (o168.1, o168.2)) (w64 (v137 - 1)).toNat (o171.1, o171.2))) } (S110_0 v138 p1 p2 v58 v137 o168 o171) (H110_8 v138 v137 o168 o171) (q_stP Pg 0 (H110_9 v138 v137 o168) 101 0 (0 + (w64 (v137 - 1)).toNat * 2) (List.set v138 v137.toNat (o168.1, o168.2)) e101 2 101 (w64 (v137 - 1)).toNat 0 2 (ag [iv o171.1, iv o171.2]) [iv o171.1, iv o171.2] (0, 0) (o171.1, o171.2) (by first | omega | (simp <;> omega))) (SI.done (by kernel_rfl))
   refine NX.bk (NX.sq (TS.rg (TI.ra 3 [0, 1, 2, 3, 8, 9] (st 53 [(0, anyV 0 v138.length), (1, iv p1), (2, iv p2), (3, fn 87), (8, iv v58), (9, iv (w64 (v137 - 1)))]) (TI.dn ?_))))
   exact Rd.again (a2 := (st 53 [(0, anyV 0 (List.length (List.set (List.set v138 v137.toNat (o168.1, o168.2)) (w64 (v137 - 1)).toNat (o171.1, o171.2)))), (1, iv p1), (2, iv p2), (3, fn 87), (8, iv v58), (9, iv (w64 (v137 - 1)))])) (h2 := (H110_8 v138 v137 o168 o171)) (Wk.an [] Ats.l [anyV 0 v138.length, iv p1, iv p2, fn 87, iv v58, iv (w64 (v137 - 1))] (.cons rav (.fl (.fl (.cons (Rn.func' .nil .nil) (.fl (.fl .nil))))))) (ih (w64 (v137 - 1)) (List.set (List.set v138 v137.toNat (o168.1, o168.2)) (w64 (v137 - 1)).toNat (o171.1, o171.2)) _ hF)
  | false =>
   replace hF := of_neg hF rfl
   refine TS.cdF (.tmp 34) (TS.ex 2 (NX.sqX ?_))
   have hF := sj hF
   subst hF
   exact Rd.out (e := .exit 2) (by intro h; cases h) (And.intro rfl (Wk.an [] Ats.l [anyV 0 v138.length, iv p1, iv p2, fn 87, iv v58] (.cons rav (.fl (.fl (.cons (Rn.func' .nil .nil) (.fl .nil)))))))
 rcases Bool.eq_false_or_eq_true (decide (v137 > p1)) with hc157 | hc157
 · replace hm173 := of_pos hm173 hc157
   obtain ⟨hg158, hm173⟩ := of_guard hm173
   obtain ⟨o159, h160, hm173⟩ := of_do hm173
   replace h160 := sj h160
   obtain ⟨hg161, hm173⟩ := of_guard hm173
   obtain ⟨o162, h163, hm173⟩ := of_do hm173
   replace h163 := sj h163
   obtain ⟨r164, h165, hm173⟩ := of_do hm173
   have hm173 := sj hm173
   subst hm173
   have hT : ∀ e ∈ ([⟨87, [ag [iv o159.1, iv o159.2], ag [iv o162.1, iv o162.2]], [lb101 v138], iv r164, []⟩] : List Entry), PureSim Pg e.g e.args e.h e.v e.new := by
    intro e he
    simp only [List.mem_cons, List.not_mem_nil, or_false] at he
    rcases he with rfl
    exact PureSim.ak (C87 _ _ _ _ _ h165)
   refine TS.dp [⟨87, [ag [iv o159.1, iv o159.2], ag [iv o162.1, iv o162.2]], [lb101 v138], iv r164, []⟩] hT mixed 14 [0, 1, 2, 3, 8, 9, 34] [0] (st 53 [(0, anyV 0 v138.length), (1, iv p1), (2, iv p2), (3, fn 87), (8, iv v58), (9, iv v137), (34, .bool (decide (r164 < 0)))]) [lb101 v138] ?_ ?_
   · refine QJ.rn (qs (st 53 [(0, anyV 0 v138.length), (1, iv p1), (2, iv p2), (3, fn 87), (8, iv v58), (9, iv v137), (18, iv v137), (19, iv p1)]) [lb101 v138] [] []) 2 (QJ.o { val := .bool true } (q_conv (e := decide (v137 > p1)) (b := true) (by kernel_rfl) hc157) (QJ.rn (qs (st 53 [(0, anyV 0 v138.length), (1, iv p1), (2, iv p2), (3, fn 87), (8, iv v58), (9, iv v137), (18, iv v137), (19, iv p1), (20, .bool true), (21, .bool true), (22, fn 87), (23, anyV 0 v138.length), (24, iv v137)]) [lb101 v138] [] []) 4 (QJ.o { val := pt 0 (0 + v137.toNat * 2) } (q_ixS 0 0 (v137.toNat * 2) (by kernel_rfl) hg158) (QJ.o { val := ag [iv o159.1, iv o159.2] } (q_nA Pg [lb101 v138] 101 0 (0 + v137.toNat * 2) v138 e101 2 101 v137.toNat (0, 0) h160) (QJ.rn (qs (st 53 [(0, anyV 0 v138.length), (1, iv p1), (2, iv p2), (3, fn 87), (8, iv v58), (9, iv v137), (18, iv v137), (19, iv p1), (20, .bool true), (21, .bool true), (22, fn 87), (23, anyV 0 v138.length), (24, iv v137), (25, pt 0 (0 + v137.toNat * 2)), (26, ag [iv o159.1, iv o159.2]), (27, anyV 0 v138.length), (28, iv v137), (29, iv (w64 (v137 - 1)))]) [lb101 v138] [] []) 3 (QJ.o { val := pt 0 (0 + (w64 (v137 - 1)).toNat * 2) } (q_ixS 0 0 ((w64 (v137 - 1)).toNat * 2) (by kernel_rfl) hg161) (QJ.o { val := ag [iv o162.1, iv o162.2] } (q_nA Pg [lb101 v138] 101 0 (0 + (w64 (v137 - 1)).toNat * 2) v138 e101 2 101 (w64 (v137 - 1)).toNat (0, 0) h163) (QJ.dn ⟨rfl, ?_⟩))))))))
     exact SJ.o { val := iv r164, new := [] } (qOf_call (g := 87) (args := [ag [iv o159.1, iv o159.2], ag [iv o162.1, iv o162.2]]) (by kernel_rfl) lookC_hit) SJ.la
   exact hK
 replace hm173 := of_neg hm173 hc157
 have hm173 := sj hm173
 subst hm173
 refine TS.dp [] (fun e he => by cases he) mixed 14 [0, 1, 2, 3, 8, 9, 34] [0] (st 53 [(0, anyV 0 v138.length), (1, iv p1), (2, iv p2), (3, fn 87), (8, iv v58), (9, iv v137), (34, .bool false)]) [lb101 v138] ?_ ?_
 · exact QJ.rn (qs (st 53 [(0, anyV 0 v138.length), (1, iv p1), (2, iv p2), (3, fn 87), (8, iv v58), (9, iv v137), (18, iv v137), (19, iv p1)]) [lb101 v138] [] []) 2 (QJ.o { val := .bool false } (q_conv (e := decide (v137 > p1)) (b := false) (by kernel_rfl) hc157) (QJ.rn (qs (st 53 [(0, anyV 0 v138.length), (1, iv p1), (2, iv p2), (3, fn 87), (8, iv v58), (9, iv v137), (18, iv v137), (19, iv p1), (20, .bool false), (21, .bool false), (22, undef), (23, undef), (24, undef), (25, undef), (26, undef), (27, undef), (28, undef), (29, undef), (30, undef), (31, undef)]) [lb101 v138] [] []) 11 (QJ.dn ⟨rfl, SJ.la⟩)))
 exact hK
def P110l0 (p1 p2 : Int) (r : List I2) : Post := fun e a h => e = .exit 0 ∧ Wk Pg 0 1 a h (st 53 [(0, anyV 0 r.length)]) [lb101 r]
theorem L110l0 (p1 p2 v58 : Int) (v59 r : List I2) (hF : F110l0 p1 p2 v58 v59 = some r) : TL Pg 0 1 c110.s2.bd.bd (st 53 [(0, anyV 0 v59.length), (1, iv p1), (2, iv p2), (3, fn 87), (8, iv v58)]) [lb101 v59] (P110l0 p1 p2 r) := by
 refine F110l0.partial_correctness p1 p2 (motive := fun v58 v59 r => TL Pg 0 1 c110.s2.bd.bd (st 53 [(0, anyV 0 v59.length), (1, iv p1), (2, iv p2), (3, fn 87), (8, iv v58)]) [lb101 v59] (P110l0 p1 p2 r)) ?_ v58 v59 r hF
 clear hF r v58 v59
 intro again ih v58 v59 r hF
 refine TL.round (TS.sq (TS.sq (TS.rg (TI.ra 3 [0, 1, 2, 3, 8, 14] (st 53 [(0, anyV 0 v59.length), (1, iv p1), (2, iv p2), (3, fn 87), (8, iv v58), (14, .bool (decide (v58 < p2)))]) (TI.dq ?_)))))
 refine TS.cd (.tmp 14) (decide (v58 < p2)) (fun hc119 => ?_) (fun hc119 => ?_)
 · replace hF := of_pos hF hc119
   refine TS.sk (NX.sq (TS.sq (TS.bk 1 (TS.sq (TS.rg (TI.ra 2 [0, 1, 2, 3, 8, 9] (st 53 [(0, anyV 0 v59.length), (1, iv p1), (2, iv p2), (3, fn 87), (8, iv v58), (9, iv v58)]) (TI.dq ?_)))))))
   refine TS.bk 2 ?_
   obtain ⟨r174, h175, hF⟩ := of_do hF
   refine TS.lp (TL.weak (a2 := (st 53 [(0, anyV 0 v59.length), (1, iv p1), (2, iv p2), (3, fn 87), (8, iv v58), (9, iv v58)])) (h2 := [lb101 v59]) (Wk.an [] Ats.l [anyV 0 v59.length, iv p1, iv p2, fn 87, iv v58, iv v58] (.cons rav (.fl (.fl (.cons (Rn.func' .nil .nil) (.fl (.fl .nil))))))) (TL.post (L110l1 p1 p2 v58 v58 v59 r174 h175) ?_))
   rintro e a1 h1 hp
   obtain ⟨rfl, hw⟩ := hp
   refine ⟨(st 53 [(0, anyV 0 r174.length), (1, iv p1), (2, iv p2), (3, fn 87), (8, iv v58)]), [lb101 r174], (NX.bkX (NX.bk (NX.sq (TS.rg (TI.ra 3 [0, 1, 2, 3, 8] (st 53 [(0, anyV 0 r174.length), (1, iv p1), (2, iv p2), (3, fn 87), (8, iv (w64 (v58 + 1)))]) (TI.dn ?_)))))), hw⟩
   exact Rd.again (a2 := (st 53 [(0, anyV 0 r174.length), (1, iv p1), (2, iv p2), (3, fn 87), (8, iv (w64 (v58 + 1)))])) (h2 := [lb101 r174]) (Wk.an [] Ats.l [anyV 0 r174.length, iv p1, iv p2, fn 87, iv (w64 (v58 + 1))] (.cons rav (.fl (.fl (.cons (Rn.func' .nil .nil) (.fl .nil)))))) (ih (w64 (v58 + 1)) r174 _ hF)
 replace hF := of_neg hF hc119
 refine TS.ex 0 (NX.sqX ?_)
 have hF := sj hF
 subst hF
 exact Rd.out (e := .exit 0) (by intro h; cases h) (And.intro rfl (Wk.an [] Ats.l [anyV 0 v59.length] (.cons rav .nil)))
theorem B110 (p0 : List I2) (p1 p2 : Int) (r : List I2) (hF : F110 p0 p1 p2 = some r) : TS Pg 0 1 c110 (st 53 [(0, anyV 0 p0.length), (1, iv p1), (2, iv p2), (3, fn 87)]) [lb101 p0] (NX Pg 0 1 [] (SortFin Pg Try.f110 [lb101 r] (.tuple #[]))) := by
 unfold F110 at hF
 refine TS.sq (TS.rg (TI.ra 3 [0, 1, 2, 3, 8] (st 53 [(0, anyV 0 p0.length), (1, iv p1), (2, iv p2), (3, fn 87), (8, iv (w64 (p1 + 1)))]) (TI.dq (TS.bk 0 ?_))))
 obtain ⟨r176, h177, hF⟩ := of_do hF
 refine TS.lp (TL.weak (a2 := (st 53 [(0, anyV 0 p0.length), (1, iv p1), (2, iv p2), (3, fn 87), (8, iv (w64 (p1 + 1)))])) (h2 := [lb101 p0]) (Wk.an [] Ats.l [anyV 0 p0.length, iv p1, iv p2, fn 87, iv (w64 (p1 + 1))] (.cons rav (.fl (.fl (.cons (Rn.func' .nil .nil) (.fl .nil)))))) (TL.post (L110l0 p1 p2 (w64 (p1 + 1)) p0 r176 h177) ?_))
 rintro e a1 h1 hp
 obtain ⟨rfl, hw⟩ := hp
 refine ⟨(st 53 [(0, anyV 0 r176.length)]), [lb101 r176], (NX.bkX ?_), hw⟩
 have hF := sj hF
 subst hF
 exact ⟨.inl rfl, rfl, rfl, by kernel_rfl⟩
theorem C110 (l : List I2) (p1 p2 : Int) (r : List I2) (hF : F110 l p1 p2 = some r) :
 ImpSim Pg 110 [anyV 0 (List.length l), .int .i64 p1, .int .i64 p2, fn 87] 0 [lb101 l] (.tuple #[]) [lb101 r] := by
 refine ImpSim.of_TS (fn := Try.f110) (c := c110) (by kernel_rfl) (by kernel_rfl) (by kernel_rfl) (Nat.le_refl _) ?_
 exact TS.weak (a2 := st 53 [(0, anyV 0 (List.length l)), (1, .int .i64 p1), (2, .int .i64 p2), (3, fn 87)]) (h2 := [lb101 l])
  (Eq.mp (by kernel_rfl) (Wk.tm (P := Pg) (base := 0) (L := 1) (a := { tmps := [anyV 0 (List.length l), .int .i64 p1, .int .i64 p2, fn 87] ++ List.replicate 49 undef }) (h := [lb101 l]) [0, 1, 2, 3])) (B110 l p1 p2 r hF)
theorem TI.icallL {P : Program} {base L j : Nat} {ops : Array Oper} {a a2 : CAct} {h h1 h2 : List Blk} {v : Value} {Ψ : CAct → List Blk → Prop} {g : FuncId} {args : List Value} {n n' : Nat} (F : Nat → CAct) (hc : callAt ops j a = some (g, args)) (hP : ImpSim P g args base h v h1) (keep keepH : List Nat) (hn : n' = n)
 (hs : mk2 keep keepH (putAt ops j a v, h1) = (F n, h2)) (he : F n' = a2) (ht : TI P base L ops (j + 1) a2 h2 Ψ) : TI P base L ops j a h Ψ := by
 subst hn; exact TI.icallM hc hP keep keepH (hs.trans (by rw [he])) ht
theorem C110k (l : List I2) (k : Nat) (hk : List.length l = k) (p1 p2 : Int) (r : List I2) (hF : F110 l p1 p2 = some r) :
 ImpSim Pg 110 [anyV 0 k, .int .i64 p1, .int .i64 p2, fn 87] 0 [lb101 l] (.tuple #[]) [lb101 r] := by
 subst hk; exact C110 l p1 p2 r hF
theorem ofMap {α : Type} {f g : Nat → α} {n : Nat} (h : (List.range n).map f = (List.range n).map g) {k : Nat} (hk : k < n) : f k = g k := by
 have := congrArg (fun l => l[k]?) h
 simpa [List.getElem?_range hk] using this
theorem e101_flat (l : List I2) : blkFlat (lb101 l) = true := by
 rcases cellsL_flat (enc := e101) (l := l) (t := 101) (fun _ => rfl) with h | h
 · cases h
 exact h
end Go.Proofs.Ythpfffijnkmdgaa
