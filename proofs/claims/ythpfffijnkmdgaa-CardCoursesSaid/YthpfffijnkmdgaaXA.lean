/- Parts of the sort of many elements. -/
import Derived.Test.YthpfffijnkmdgaaX0
set_option linter.unusedVariables false
set_option linter.unusedSimpArgs false
set_option maxRecDepth 100000
set_option maxHeartbeats 4000000
namespace Go.Proofs.Ythpfffijnkmdgaa
open Go Go.Cl
noncomputable def c123 : Code := Try.f123.code
def S123_7 (v32 : List I2) (p2 p3 v31 m79 r87 : Int) : CAct := (st 82 [(0, anyV 0 v32.length), (2, iv p2), (3, iv p3), (4, fn 87), (10, iv v31), (11, iv m79), (58, .bool (!(decide (r87 < 0)))), (59, anyV 0 v32.length), (60, iv p3), (61, iv v31), (62, iv (w64 (p3 + v31))), (63, anyV 0 v32.length), (64, iv p3), (65, iv m79), (66, iv (w64 (p3 + m79))), (67, anyV 0 v32.length), (68, iv p3), (69, iv m79), (70, iv (w64 (p3 + m79)))])
def S123_6 (v32 : List I2) (p2 p3 v31 m79 r87 : Int) : CAct := sx (S123_7 v32 p2 p3 v31 m79 r87) [(71, pt 0 (0 + (w64 (p3 + m79)).toNat * 2))]
def S123_5 (v32 : List I2) (p2 p3 v31 m79 r87 : Int) (o85 : I2) : CAct := sx (S123_6 v32 p2 p3 v31 m79 r87) [(72, ag [iv o85.1, iv o85.2])]
def S123_4 (v32 : List I2) (p2 p3 v31 m79 r87 : Int) (o85 : I2) : CAct := sx (S123_5 v32 p2 p3 v31 m79 r87 o85) [(73, anyV 0 v32.length), (74, iv p3), (75, iv v31), (76, iv (w64 (p3 + v31)))]
def S123_3 (v32 : List I2) (p2 p3 v31 m79 r87 : Int) (o85 : I2) : CAct := sx (S123_4 v32 p2 p3 v31 m79 r87 o85) [(77, pt 0 (0 + (w64 (p3 + v31)).toNat * 2))]
def S123_2 (v32 : List I2) (p2 p3 v31 m79 r87 : Int) (o85 o82 : I2) : CAct := sx (S123_3 v32 p2 p3 v31 m79 r87 o85) [(78, ag [iv o82.1, iv o82.2])]
def S123_1 (v32 : List I2) (p2 p3 v31 m79 r87 : Int) (o85 o82 : I2) : CAct := sx (S123_2 v32 p2 p3 v31 m79 r87 o85 o82) [(79, pt 0 (0 + (w64 (p3 + v31)).toNat * 2))]
def S123_0 (v32 : List I2) (p2 p3 v31 m79 r87 : Int) (o85 o82 : I2) : CAct := sx (S123_1 v32 p2 p3 v31 m79 r87 o85 o82) [(80, pt 0 (0 + (w64 (p3 + m79)).toNat * 2))]
def S123_8 (v32 : List I2) (p2 p3 v31 : Int) : CAct := (st 82 [(0, anyV 0 v32.length), (2, iv p2), (3, iv p3), (4, fn 87), (10, iv v31), (11, iv (w64 ((w64 (2 * v31)) + 1))), (18, .bool (decide ((w64 ((w64 (2 * v31)) + 1)) ≥ p2))), (19, iv (w64 ((w64 (2 * v31)) + 1))), (20, iv (w64 ((w64 ((w64 (2 * v31)) + 1)) + 1))), (21, iv p2)])
def H123_9 (v32 : List I2) (p3 v31 : Int) (o85 : I2) (m79 : Int) (o82 : I2) : List Blk := [lb101 (List.set (List.set v32 (w64 (p3 + v31)).toNat (o85.1, o85.2)) (w64 (p3 + m79)).toNat (o82.1, o82.2))]
def H123_10 (v32 : List I2) (p3 v31 : Int) (o85 : I2) : List Blk := [lb101 (List.set v32 (w64 (p3 + v31)).toNat (o85.1, o85.2))]
def F123l0 (p2 p3 v31 : Int) (v32 : List I2) : Option ((List I2) ⊕ (List I2)) :=
 if decide ((w64 ((w64 (2 * v31)) + 1)) ≥ p2) then
  some (.inl v32)
 else
  (
   if decide ((w64 ((w64 ((w64 (2 * v31)) + 1)) + 1)) < p2) then
    if (0 : Int) ≤ w64 (p3 + (w64 ((w64 (2 * v31)) + 1))) ∧ w64 (p3 + (w64 ((w64 (2 * v31)) + 1))) < (v32.length : Int) then
     some (List.getD v32 (w64 (p3 + (w64 ((w64 (2 * v31)) + 1)))).toNat (0, 0)) >>= fun o69 =>
     if (0 : Int) ≤ w64 ((w64 (p3 + (w64 ((w64 (2 * v31)) + 1)))) + 1) ∧ w64 ((w64 (p3 + (w64 ((w64 (2 * v31)) + 1)))) + 1) < (v32.length : Int) then
      some (List.getD v32 (w64 ((w64 (p3 + (w64 ((w64 (2 * v31)) + 1)))) + 1)).toNat (0, 0)) >>= fun o72 =>
      F87 o69.1 o69.2 o72.1 o72.2 >>= fun r74 =>
      some (decide (r74 < 0))
     else none
    else none
   else
    some (false)
  : Option Bool) >>= fun m76 =>
  (
   if m76 then
    some (w64 ((w64 ((w64 (2 * v31)) + 1)) + 1))
   else
    some (w64 ((w64 (2 * v31)) + 1))
  : Option Int) >>= fun m79 =>
  if (0 : Int) ≤ w64 (p3 + v31) ∧ w64 (p3 + v31) < (v32.length : Int) then
   some (List.getD v32 (w64 (p3 + v31)).toNat (0, 0)) >>= fun o82 =>
   if (0 : Int) ≤ w64 (p3 + m79) ∧ w64 (p3 + m79) < (v32.length : Int) then
    some (List.getD v32 (w64 (p3 + m79)).toNat (0, 0)) >>= fun o85 =>
    F87 o82.1 o82.2 o85.1 o85.2 >>= fun r87 =>
    if !(decide (r87 < 0)) then
     some (.inr v32)
    else
     F123l0 p2 p3 m79 (List.set (List.set v32 (w64 (p3 + v31)).toNat (o85.1, o85.2)) (w64 (p3 + m79)).toNat (o82.1, o82.2))
   else none
  else none
 partial_fixpoint
def F123 (p0 : List I2) (p1 p2 p3 : Int) : Option (List I2) :=
 F123l0 p2 p3 p1 p0 >>= fun r91 =>
 match r91 with
 | .inl o93 =>
  some (o93)
 | .inr o94 =>
  some (o94)
def P123l0 (p2 p3 : Int) (r : (List I2) ⊕ (List I2)) : Post := fun e a h => (match r with | .inl q0 => e = .exit 0 ∧ Wk Pg 0 1 a h (st 82 [(0, anyV 0 q0.length)]) [lb101 q0] | .inr q0 => e = .ret ∧ Wk Pg 0 1 a h (st 82 [(0, anyV 0 q0.length)]) [lb101 q0])
theorem L123l0 (p2 p3 v31 : Int) (v32 : List I2) (r : (List I2) ⊕ (List I2)) (hF : F123l0 p2 p3 v31 v32 = some r) : TL Pg 0 1 c123.s2.bd.bd (st 82 [(0, anyV 0 v32.length), (2, iv p2), (3, iv p3), (4, fn 87), (10, iv v31)]) [lb101 v32] (P123l0 p2 p3 r) := by
 refine F123l0.partial_correctness p2 p3 (motive := fun v31 v32 r => TL Pg 0 1 c123.s2.bd.bd (st 82 [(0, anyV 0 v32.length), (2, iv p2), (3, iv p3), (4, fn 87), (10, iv v31)]) [lb101 v32] (P123l0 p2 p3 r)) ?_ v31 v32 r hF
 clear hF r v31 v32
 intro again ih v31 v32 r hF
 refine TL.round (TS.bk 1 (TS.sq (TS.rg (TI.ra 4 [0, 2, 3, 4, 10, 11] (st 82 [(0, anyV 0 v32.length), (2, iv p2), (3, iv p3), (4, fn 87), (10, iv v31), (11, iv (w64 ((w64 (2 * v31)) + 1)))]) (TI.dq (TS.sq (TS.sq ?_)))))))
 refine TS.rg (TI.ra 3 [0, 2, 3, 4, 10, 11, 18] (st 82 [(0, anyV 0 v32.length), (2, iv p2), (3, iv p3), (4, fn 87), (10, iv v31), (11, iv (w64 ((w64 (2 * v31)) + 1))), (18, .bool (decide ((w64 ((w64 (2 * v31)) + 1)) ≥ p2)))]) (TI.dq ?_))
 refine TS.cd (.tmp 18) (decide ((w64 ((w64 (2 * v31)) + 1)) ≥ p2)) (fun hc66 => ?_) (fun hc66 => ?_)
 · replace hF := of_pos hF hc66
   refine TS.ex 0 (NX.sqX (NX.bkY rfl ?_))
   have hF := sj hF
   subst hF
   exact Rd.out (e := .exit 0) (by intro h; cases h) (And.intro rfl (Wk.an [] Ats.l [anyV 0 v32.length] (.cons rav .nil)))
 replace hF := of_neg hF hc66
 refine TS.sk (NX.sq (TS.sq (TS.sq ?_)))
 obtain ⟨m76, hm90, hF⟩ := of_do hF
 have hK : NX Pg 0 1 [.sq c123.s2.bd.bd.bd.s2.s2.s1.s2, .sq c123.s2.bd.bd.bd.s2.s2.s2, .bk 1] (Rd Pg 0 1 c123.s2.bd.bd (P123l0 p2 p3 r)) .normal (st 82 [(0, anyV 0 v32.length), (2, iv p2), (3, iv p3), (4, fn 87), (10, iv v31), (11, iv (w64 ((w64 (2 * v31)) + 1))), (40, .bool m76)]) [lb101 v32] := by
  refine NX.sq ?_
  obtain ⟨m79, hm80, hF⟩ := of_do hF
  have hK : NX Pg 0 1 [.sq c123.s2.bd.bd.bd.s2.s2.s2, .bk 1] (Rd Pg 0 1 c123.s2.bd.bd (P123l0 p2 p3 r)) .normal (st 82 [(0, anyV 0 v32.length), (2, iv p2), (3, iv p3), (4, fn 87), (10, iv v31), (11, iv m79)]) [lb101 v32] := by
   refine NX.sq (TS.sq (TS.sq ?_))
   obtain ⟨hg81, hF⟩ := of_guard hF
   obtain ⟨o82, h83, hF⟩ := of_do hF
   replace h83 := sj h83
   obtain ⟨hg84, hF⟩ := of_guard hF
   obtain ⟨o85, h86, hF⟩ := of_do hF
   replace h86 := sj h86
   obtain ⟨r87, h88, hF⟩ := of_do hF
   have hT : ∀ e ∈ ([⟨87, [ag [iv o82.1, iv o82.2], ag [iv o85.1, iv o85.2]], [lb101 v32], iv r87, []⟩] : List Entry), PureSim Pg e.g e.args e.h e.v e.new := by
    intro e he
    simp only [List.mem_cons, List.not_mem_nil, or_false] at he
    rcases he with rfl
    exact PureSim.ak (C87 _ _ _ _ _ h88)
   refine TS.dp [⟨87, [ag [iv o82.1, iv o82.2], ag [iv o85.1, iv o85.2]], [lb101 v32], iv r87, []⟩] hT mixed 13 [0, 2, 3, 4, 10, 11, 58] [0] (st 82 [(0, anyV 0 v32.length), (2, iv p2), (3, iv p3), (4, fn 87), (10, iv v31), (11, iv m79), (58, .bool (!(decide (r87 < 0))))]) [lb101 v32] ?_ ?_
   · exact QJ.rn (qs (st 82 [(0, anyV 0 v32.length), (2, iv p2), (3, iv p3), (4, fn 87), (10, iv v31), (11, iv m79), (43, fn 87), (44, anyV 0 v32.length), (45, iv p3), (46, iv v31), (47, iv (w64 (p3 + v31)))]) [lb101 v32] [] []) 5 (QJ.o { val := pt 0 (0 + (w64 (p3 + v31)).toNat * 2) } (q_ixS 0 0 ((w64 (p3 + v31)).toNat * 2) (by kernel_rfl) hg81) (QJ.o { val := ag [iv o82.1, iv o82.2] } (q_nA Pg [lb101 v32] 101 0 (0 + (w64 (p3 + v31)).toNat * 2) v32 e101 2 101 (w64 (p3 + v31)).toNat (0, 0) h83) (QJ.rn (qs (st 82 [(0, anyV 0 v32.length), (2, iv p2), (3, iv p3), (4, fn 87), (10, iv v31), (11, iv m79), (43, fn 87), (44, anyV 0 v32.length), (45, iv p3), (46, iv v31), (47, iv (w64 (p3 + v31))), (48, pt 0 (0 + (w64 (p3 + v31)).toNat * 2)), (49, ag [iv o82.1, iv o82.2]), (50, anyV 0 v32.length), (51, iv p3), (52, iv m79), (53, iv (w64 (p3 + m79)))]) [lb101 v32] [] []) 4 (QJ.o { val := pt 0 (0 + (w64 (p3 + m79)).toNat * 2) } (q_ixS 0 0 ((w64 (p3 + m79)).toNat * 2) (by kernel_rfl) hg84) (QJ.o { val := ag [iv o85.1, iv o85.2] } (q_nA Pg [lb101 v32] 101 0 (0 + (w64 (p3 + m79)).toNat * 2) v32 e101 2 101 (w64 (p3 + m79)).toNat (0, 0) h86) (QJ.dn ⟨rfl, (SJ.o { val := iv r87, new := [] } (qOf_call (g := 87) (args := [ag [iv o82.1, iv o82.2], ag [iv o85.1, iv o85.2]]) (by kernel_rfl) lookC_hit) SJ.la)⟩))))))
   refine TS.cd (.tmp 58) (!(decide (r87 < 0))) (fun hc89 => ?_) (fun hc89 => ?_)
   · replace hF := of_pos hF hc89
     refine TS.rt (NX.sqR (NX.bkR ?_))
     have hF := sj hF
     subst hF
     exact Rd.out (e := .ret) (by intro h; cases h) (And.intro rfl (Wk.an [] Ats.l [anyV 0 v32.length] (.cons rav .nil)))
   replace hF := of_neg hF hc89
   refine TS.sk (NX.sq (TS.sq ?_))
   refine TS.draw' (id := 6) (b := true) (ops := c123.s2.bd.bd.bd.s2.s2.s2.s2.s1.rops) (fin := (qs (S123_1 v32 p2 p3 v31 m79 r87 o85 o82) (H123_10 v32 p3 v31 o85) [] [(21, 0)])) (fin2 := (qs (S123_1 v32 p2 p3 v31 m79 r87 o85 o82) (H123_10 v32 p3 v31 o85) [] [(21, 0)])) (a1 := (S123_0 v32 p2 p3 v31 m79 r87 o85 o82)) (h1 := (H123_9 v32 p3 v31 o85 m79 o82)) (a2 := (st 82 [(0, anyV 0 v32.length), (2, iv p2), (3, iv p3), (4, fn 87), (11, iv m79)])) (h2 := (H123_9 v32 p3 v31 o85 m79 o82)) [] (fun e he => by cases he) mixed (by kernel_rfl) rfl 22 (by kernel_rfl) [(21, 0)] ?_ rfl (.inr ⟨?_, (by kernel_rfl)⟩) ?_ [0, 2, 3, 4, 11] [0] (by kernel_rfl) ?_
   iterate 2
    · refine QI.r (qs (S123_7 v32 p2 p3 v31 m79 r87) [lb101 v32] [] []) 12 (QI.o { val := pt 0 (0 + (w64 (p3 + m79)).toNat * 2) } (qs (S123_6 v32 p2 p3 v31 m79 r87) [lb101 v32] [] []) (q_ixS 0 0 ((w64 (p3 + m79)).toNat * 2) (by kernel_rfl) hg84) (QI.o { val := ag [iv o85.1, iv o85.2] } (qs (S123_5 v32 p2 p3 v31 m79 r87 o85) [lb101 v32] [] []) (q_nA Pg [lb101 v32] 101 0 (0 + (w64 (p3 + m79)).toNat * 2) v32 e101 2 101 (w64 (p3 + m79)).toNat (0, 0) h86) (QI.r (qs (S123_4 v32 p2 p3 v31 m79 r87 o85) [lb101 v32] [] []) 4 (QI.o { val := pt 0 (0 + (w64 (p3 + v31)).toNat * 2) } (qs (S123_3 v32 p2 p3 v31 m79 r87 o85) [lb101 v32] [] []) (q_ixS 0 0 ((w64 (p3 + v31)).toNat * 2) (by kernel_rfl) hg81) (QI.o { val := ag [iv o82.1, iv o82.2] } (qs (S123_2 v32 p2 p3 v31 m79 r87 o85 o82) [lb101 v32] [] []) (q_nA Pg [lb101 v32] 101 0 (0 + (w64 (p3 + v31)).toNat * 2) v32 e101 2 101 (w64 (p3 + v31)).toNat (0, 0) h83) (QI.o { val := pt 0 (0 + (w64 (p3 + v31)).toNat * 2) } (qs (S123_1 v32 p2 p3 v31 m79 r87 o85 o82) [lb101 v32] [] []) (q_ixS 0 0 ((w64 (p3 + v31)).toNat * 2) (by kernel_rfl) hg81) ?_))))))
      exact QI.o { val := undef, upd := some (0, lb101 (List.set v32 (w64 (p3 + v31)).toNat (o85.1, o85.2))) } (qs (S123_1 v32 p2 p3 v31 m79 r87 o85 o82) (H123_10 v32 p3 v31 o85) [] [(21, 0)]) (q_stP Pg 0 [lb101 v32] 101 0 (0 + (w64 (p3 + v31)).toNat * 2) v32 e101 2 101 (w64 (p3 + v31)).toNat 0 2 (ag [iv o85.1, iv o85.2]) [iv o85.1, iv o85.2] (0, 0) (o85.1, o85.2) (by first | omega | (simp <;> omega))) (QI.done (by kernel_rfl))
   · refine SI.o { val := pt 0 (0 + (w64 (p3 + m79)).toNat * 2) } (S123_0 v32 p2 p3 v31 m79 r87 o85 o82) (H123_10 v32 p3 v31 o85) (q_ixS 0 0 ((w64 (p3 + m79)).toNat * 2) (by kernel_rfl) hg84) ?_
     exact SI.o { val := undef, upd := some (0, lb101 (List.set (List.set v32 (w64 (p3 + v31)).toNat (o85.1, o85.2)) (w64 (p3 + m79)).toNat (o82.1, o82.2))) } (S123_0 v32 p2 p3 v31 m79 r87 o85 o82) (H123_9 v32 p3 v31 o85 m79 o82) (q_stP Pg 0 (H123_10 v32 p3 v31 o85) 101 0 (0 + (w64 (p3 + m79)).toNat * 2) (List.set v32 (w64 (p3 + v31)).toNat (o85.1, o85.2)) e101 2 101 (w64 (p3 + m79)).toNat 0 2 (ag [iv o82.1, iv o82.2]) [iv o82.1, iv o82.2] (0, 0) (o82.1, o82.2) (by first | omega | (simp <;> omega))) (SI.done (by kernel_rfl))
   refine TS.rg (TI.ra 2 [0, 2, 3, 4, 10] (st 82 [(0, anyV 0 v32.length), (2, iv p2), (3, iv p3), (4, fn 87), (10, iv m79)]) (TI.dn (NX.bk ?_)))
   exact Rd.again (a2 := (st 82 [(0, anyV 0 (List.length (List.set (List.set v32 (w64 (p3 + v31)).toNat (o85.1, o85.2)) (w64 (p3 + m79)).toNat (o82.1, o82.2)))), (2, iv p2), (3, iv p3), (4, fn 87), (10, iv m79)])) (h2 := (H123_9 v32 p3 v31 o85 m79 o82)) (Wk.an [] Ats.l [anyV 0 v32.length, iv p2, iv p3, fn 87, iv m79] (.cons rav (.fl (.fl (.cons (Rn.func' .nil .nil) (.fl .nil)))))) (ih m79 (List.set (List.set v32 (w64 (p3 + v31)).toNat (o85.1, o85.2)) (w64 (p3 + m79)).toNat (o82.1, o82.2)) _ hF)
  clear hF
  have hF := hm80
  clear hm80
  refine TS.start ?_
  cases m76 with
  | true =>
   replace hF := of_pos hF rfl
   refine TS.cdT (.tmp 40) (TS.rg (TI.ra 3 [0, 2, 3, 4, 10, 11] (st 82 [(0, anyV 0 v32.length), (2, iv p2), (3, iv p3), (4, fn 87), (10, iv v31), (11, iv (w64 ((w64 ((w64 (2 * v31)) + 1)) + 1)))]) (TI.dn ?_)))
   have hF := sj hF
   subst hF
   exact TS.weak (by exact (Wk.an [] Ats.l [anyV 0 v32.length, iv p2, iv p3, fn 87, iv v31, iv (w64 ((w64 ((w64 (2 * v31)) + 1)) + 1))] (.cons rav (.fl (.fl (.cons (Rn.func' .nil .nil) (.fl (.fl .nil)))))))) hK
  | false =>
   replace hF := of_neg hF rfl
   refine TS.cdF (.tmp 40) (TS.sk ?_)
   have hF := sj hF
   subst hF
   exact TS.weak (by exact (Wk.an [] Ats.l [anyV 0 v32.length, iv p2, iv p3, fn 87, iv v31, iv (w64 ((w64 (2 * v31)) + 1))] (.cons rav (.fl (.fl (.cons (Rn.func' .nil .nil) (.fl (.fl .nil)))))))) hK
 rcases Bool.eq_false_or_eq_true (decide ((w64 ((w64 ((w64 (2 * v31)) + 1)) + 1)) < p2)) with hc67 | hc67
 · replace hm90 := of_pos hm90 hc67
   obtain ⟨hg68, hm90⟩ := of_guard hm90
   obtain ⟨o69, h70, hm90⟩ := of_do hm90
   replace h70 := sj h70
   obtain ⟨hg71, hm90⟩ := of_guard hm90
   obtain ⟨o72, h73, hm90⟩ := of_do hm90
   replace h73 := sj h73
   obtain ⟨r74, h75, hm90⟩ := of_do hm90
   have hm90 := sj hm90
   subst hm90
   have hT : ∀ e ∈ ([⟨87, [ag [iv o69.1, iv o69.2], ag [iv o72.1, iv o72.2]], [lb101 v32], iv r74, []⟩] : List Entry), PureSim Pg e.g e.args e.h e.v e.new := by
    intro e he
    simp only [List.mem_cons, List.not_mem_nil, or_false] at he
    rcases he with rfl
    exact PureSim.ak (C87 _ _ _ _ _ h75)
   refine TS.dp [⟨87, [ag [iv o69.1, iv o69.2], ag [iv o72.1, iv o72.2]], [lb101 v32], iv r74, []⟩] hT mixed 19 [0, 2, 3, 4, 10, 11, 40] [0] (st 82 [(0, anyV 0 v32.length), (2, iv p2), (3, iv p3), (4, fn 87), (10, iv v31), (11, iv (w64 ((w64 (2 * v31)) + 1))), (40, .bool (decide (r74 < 0)))]) [lb101 v32] ?_ ?_
   · refine QJ.rn (qs (S123_8 v32 p2 p3 v31) [lb101 v32] [] []) 3 (QJ.o { val := .bool true } (q_conv (e := decide ((w64 ((w64 ((w64 (2 * v31)) + 1)) + 1)) < p2)) (b := true) (by kernel_rfl) hc67) (QJ.rn (qs (st 82 [(0, anyV 0 v32.length), (2, iv p2), (3, iv p3), (4, fn 87), (10, iv v31), (11, iv (w64 ((w64 (2 * v31)) + 1))), (18, .bool (decide ((w64 ((w64 (2 * v31)) + 1)) ≥ p2))), (19, iv (w64 ((w64 (2 * v31)) + 1))), (20, iv (w64 ((w64 ((w64 (2 * v31)) + 1)) + 1))), (21, iv p2), (22, .bool true), (23, .bool true), (24, fn 87), (25, anyV 0 v32.length), (26, iv p3), (27, iv (w64 ((w64 (2 * v31)) + 1))), (28, iv (w64 (p3 + (w64 ((w64 (2 * v31)) + 1)))))]) [lb101 v32] [] []) 6 (QJ.o { val := pt 0 (0 + (w64 (p3 + (w64 ((w64 (2 * v31)) + 1)))).toNat * 2) } (q_ixS 0 0 ((w64 (p3 + (w64 ((w64 (2 * v31)) + 1)))).toNat * 2) (by kernel_rfl) hg68) (QJ.o { val := ag [iv o69.1, iv o69.2] } (q_nA Pg [lb101 v32] 101 0 (0 + (w64 (p3 + (w64 ((w64 (2 * v31)) + 1)))).toNat * 2) v32 e101 2 101 (w64 (p3 + (w64 ((w64 (2 * v31)) + 1)))).toNat (0, 0) h70) (QJ.rn (qs (st 82 [(0, anyV 0 v32.length), (2, iv p2), (3, iv p3), (4, fn 87), (10, iv v31), (11, iv (w64 ((w64 (2 * v31)) + 1))), (18, .bool (decide ((w64 ((w64 (2 * v31)) + 1)) ≥ p2))), (19, iv (w64 ((w64 (2 * v31)) + 1))), (20, iv (w64 ((w64 ((w64 (2 * v31)) + 1)) + 1))), (21, iv p2), (22, .bool true), (23, .bool true), (24, fn 87), (25, anyV 0 v32.length), (26, iv p3), (27, iv (w64 ((w64 (2 * v31)) + 1))), (28, iv (w64 (p3 + (w64 ((w64 (2 * v31)) + 1))))), (29, pt 0 (0 + (w64 (p3 + (w64 ((w64 (2 * v31)) + 1)))).toNat * 2)), (30, ag [iv o69.1, iv o69.2]), (31, anyV 0 v32.length), (32, iv p3), (33, iv (w64 ((w64 (2 * v31)) + 1))), (34, iv (w64 (p3 + (w64 ((w64 (2 * v31)) + 1))))), (35, iv (w64 ((w64 (p3 + (w64 ((w64 (2 * v31)) + 1)))) + 1)))]) [lb101 v32] [] []) 5 (QJ.o { val := pt 0 (0 + (w64 ((w64 (p3 + (w64 ((w64 (2 * v31)) + 1)))) + 1)).toNat * 2) } (q_ixS 0 0 ((w64 ((w64 (p3 + (w64 ((w64 (2 * v31)) + 1)))) + 1)).toNat * 2) (by kernel_rfl) hg71) (QJ.o { val := ag [iv o72.1, iv o72.2] } (q_nA Pg [lb101 v32] 101 0 (0 + (w64 ((w64 (p3 + (w64 ((w64 (2 * v31)) + 1)))) + 1)).toNat * 2) v32 e101 2 101 (w64 ((w64 (p3 + (w64 ((w64 (2 * v31)) + 1)))) + 1)).toNat (0, 0) h73) (QJ.dn ⟨rfl, ?_⟩))))))))
     exact SJ.o { val := iv r74, new := [] } (qOf_call (g := 87) (args := [ag [iv o69.1, iv o69.2], ag [iv o72.1, iv o72.2]]) (by kernel_rfl) lookC_hit) SJ.la
   exact hK
 replace hm90 := of_neg hm90 hc67
 have hm90 := sj hm90
 subst hm90
 refine TS.dp [] (fun e he => by cases he) mixed 19 [0, 2, 3, 4, 10, 11, 40] [0] (st 82 [(0, anyV 0 v32.length), (2, iv p2), (3, iv p3), (4, fn 87), (10, iv v31), (11, iv (w64 ((w64 (2 * v31)) + 1))), (40, .bool false)]) [lb101 v32] ?_ ?_
 · exact QJ.rn (qs (S123_8 v32 p2 p3 v31) [lb101 v32] [] []) 3 (QJ.o { val := .bool false } (q_conv (e := decide ((w64 ((w64 ((w64 (2 * v31)) + 1)) + 1)) < p2)) (b := false) (by kernel_rfl) hc67) (QJ.rn (qs (st 82 [(0, anyV 0 v32.length), (2, iv p2), (3, iv p3), (4, fn 87), (10, iv v31), (11, iv (w64 ((w64 (2 * v31)) + 1))), (18, .bool (decide ((w64 ((w64 (2 * v31)) + 1)) ≥ p2))), (19, iv (w64 ((w64 (2 * v31)) + 1))), (20, iv (w64 ((w64 ((w64 (2 * v31)) + 1)) + 1))), (21, iv p2), (22, .bool false), (23, .bool false), (24, undef), (25, undef), (26, undef), (27, undef), (28, undef), (29, undef), (30, undef), (31, undef), (32, undef), (33, undef), (34, undef), (35, undef), (36, undef), (37, undef)]) [lb101 v32] [] []) 15 (QJ.dn ⟨rfl, SJ.la⟩)))
 exact hK
theorem B123 (p0 : List I2) (p1 p2 p3 : Int) (r : List I2) (hF : F123 p0 p1 p2 p3 = some r) : TS Pg 0 1 c123 (st 82 [(0, anyV 0 p0.length), (1, iv p1), (2, iv p2), (3, iv p3), (4, fn 87)]) [lb101 p0] (NX Pg 0 1 [] (SortFin Pg Try.f123 [lb101 r] (.tuple #[]))) := by
 unfold F123 at hF
 refine TS.sq (TS.rg (TI.ra 2 [0, 2, 3, 4, 10] (st 82 [(0, anyV 0 p0.length), (2, iv p2), (3, iv p3), (4, fn 87), (10, iv p1)]) (TI.dq (TS.bk 0 ?_))))
 obtain ⟨r91, h92, hF⟩ := of_do hF
 refine TS.lp (TL.weak (a2 := (st 82 [(0, anyV 0 p0.length), (2, iv p2), (3, iv p3), (4, fn 87), (10, iv p1)])) (h2 := [lb101 p0]) (Wk.an [] Ats.l [anyV 0 p0.length, iv p2, iv p3, fn 87, iv p1] (.cons rav (.fl (.fl (.cons (Rn.func' .nil .nil) (.fl .nil)))))) (TL.post (L123l0 p2 p3 p1 p0 r91 h92) ?_))
 rintro e a1 h1 hp
 rcases r91 with o93 | o94
 · skip
   obtain ⟨rfl, hw⟩ := hp
   refine ⟨(st 82 [(0, anyV 0 o93.length)]), [lb101 o93], (NX.bkX ?_), hw⟩
   have hF := sj hF
   subst hF
   exact ⟨.inl rfl, rfl, rfl, by kernel_rfl⟩
 skip
 obtain ⟨rfl, hw⟩ := hp
 refine ⟨(st 82 [(0, anyV 0 o94.length)]), [lb101 o94], (NX.bkR ?_), hw⟩
 have hF := sj hF
 subst hF
 exact ⟨.inr rfl, rfl, rfl, by kernel_rfl⟩
theorem C123 (p0 : List I2) (k : Nat) (hk : List.length p0 = k) (p1 p2 p3 : Int) (r : List I2) (hF : F123 p0 p1 p2 p3 = some r) : ImpSim Pg 123 [anyV 0 k, iv p1, iv p2, iv p3, fn 87] 0 [lb101 p0] (.tuple #[]) [lb101 r] := by
 subst hk
 exact ImpSim.of_TS (fn := Try.f123) (c := c123) (by kernel_rfl) (by kernel_rfl) (by kernel_rfl) (Nat.le_refl _) (TS.weak (a2 := (st 82 [(0, anyV 0 p0.length), (1, iv p1), (2, iv p2), (3, iv p3), (4, fn 87)])) (h2 := [lb101 p0]) (Eq.mp (by kernel_rfl) (Wk.tm (P := Pg) (base := 0) (L := 1) (a := { tmps := [anyV 0 p0.length, iv p1, iv p2, iv p3, fn 87] ++ List.replicate 77 undef }) (h := [lb101 p0]) [0, 1, 2, 3, 4])) (B123 p0 p1 p2 p3 r hF))
noncomputable def c114 : Code := Try.f114.code
def S114_7 (v10 : List I2) (v8 v9 : Int) : CAct := (st 34 [(0, anyV 0 v10.length), (8, iv v8), (9, iv v9), (15, .bool (decide (v8 < v9))), (16, anyV 0 v10.length), (17, iv v8), (18, anyV 0 v10.length), (19, iv v9), (20, anyV 0 v10.length), (21, iv v9)])
def S114_6 (v10 : List I2) (v8 v9 : Int) : CAct := sx (S114_7 v10 v8 v9) [(22, pt 0 (0 + v9.toNat * 2))]
def S114_5 (v10 : List I2) (v8 v9 : Int) (o22 : I2) : CAct := sx (S114_6 v10 v8 v9) [(23, ag [iv o22.1, iv o22.2])]
def S114_4 (v10 : List I2) (v8 v9 : Int) (o22 : I2) : CAct := sx (S114_5 v10 v8 v9 o22) [(24, anyV 0 v10.length), (25, iv v8)]
def S114_3 (v10 : List I2) (v8 v9 : Int) (o22 : I2) : CAct := sx (S114_4 v10 v8 v9 o22) [(26, pt 0 (0 + v8.toNat * 2))]
def S114_2 (v10 : List I2) (v8 v9 : Int) (o22 o25 : I2) : CAct := sx (S114_3 v10 v8 v9 o22) [(27, ag [iv o25.1, iv o25.2])]
def S114_1 (v10 : List I2) (v8 v9 : Int) (o22 o25 : I2) : CAct := sx (S114_2 v10 v8 v9 o22 o25) [(28, pt 0 (0 + v8.toNat * 2))]
def S114_0 (v10 : List I2) (v8 v9 : Int) (o22 o25 : I2) : CAct := sx (S114_1 v10 v8 v9 o22 o25) [(29, pt 0 (0 + v9.toNat * 2))]
def H114_8 (v10 : List I2) (v8 : Int) (o22 : I2) (v9 : Int) (o25 : I2) : List Blk := [lb101 (List.set (List.set v10 v8.toNat (o22.1, o22.2)) v9.toNat (o25.1, o25.2))]
def H114_9 (v10 : List I2) (v8 : Int) (o22 : I2) : List Blk := [lb101 (List.set v10 v8.toNat (o22.1, o22.2))]
def F114l0  (v8 : Int) (v9 : Int) (v10 : List I2) : Option (List I2) :=
 if decide (v8 < v9) then
  if (0 : Int) ≤ v9 ∧ v9 < (v10.length : Int) then
   some (List.getD v10 v9.toNat (0, 0)) >>= fun o22 =>
   if (0 : Int) ≤ v8 ∧ v8 < (v10.length : Int) then
    some (List.getD v10 v8.toNat (0, 0)) >>= fun o25 =>
    F114l0  (w64 (v8 + 1)) (w64 (v9 - 1)) (List.set (List.set v10 v8.toNat (o22.1, o22.2)) v9.toNat (o25.1, o25.2))
   else none
  else none
 else
  some v10
 partial_fixpoint
def F114 (p0 : List I2) (p1 p2 : Int) : Option (List I2) :=
 F114l0  p1 (w64 (p2 - 1)) p0 >>= fun r27 =>
 some (r27)
def P114l0  (r : List I2) : Post := fun e a h => e = .exit 0 ∧ Wk Pg 0 1 a h (st 34 [(0, anyV 0 r.length)]) [lb101 r]
theorem L114l0  (v8 : Int) (v9 : Int) (v10 : List I2) (r : List I2) (hF : F114l0  v8 v9 v10 = some r) : TL Pg 0 1 c114.s2.s2.bd.bd (st 34 [(0, anyV 0 v10.length), (8, iv v8), (9, iv v9)]) [lb101 v10] (P114l0  r) := by
 refine F114l0.partial_correctness  (motive := fun v8 v9 v10 r => TL Pg 0 1 c114.s2.s2.bd.bd (st 34 [(0, anyV 0 v10.length), (8, iv v8), (9, iv v9)]) [lb101 v10] (P114l0  r)) ?_ v8 v9 v10 r hF
 clear hF r v8 v9 v10
 intro again ih v8 v9 v10 r hF
 refine TL.round (TS.sq (TS.sq (TS.rg (TI.ra 3 [0, 8, 9, 15] (st 34 [(0, anyV 0 v10.length), (8, iv v8), (9, iv v9), (15, .bool (decide (v8 < v9)))]) (TI.dq ?_)))))
 refine TS.cd (.tmp 15) (decide (v8 < v9)) (fun hc20 => ?_) (fun hc20 => ?_)
 · replace hF := of_pos hF hc20
   refine TS.sk (NX.sq (TS.bk 1 (TS.sq ?_)))
   obtain ⟨hg21, hF⟩ := of_guard hF
   obtain ⟨o22, h23, hF⟩ := of_do hF
   replace h23 := sj h23
   obtain ⟨hg24, hF⟩ := of_guard hF
   obtain ⟨o25, h26, hF⟩ := of_do hF
   replace h26 := sj h26
   refine TS.draw' (id := 3) (b := true) (ops := c114.s2.s2.bd.bd.s2.bd.s1.rops) (fin := (qs (S114_1 v10 v8 v9 o22 o25) (H114_9 v10 v8 o22) [] [(13, 0)])) (fin2 := (qs (S114_1 v10 v8 v9 o22 o25) (H114_9 v10 v8 o22) [] [(13, 0)])) (a1 := (S114_0 v10 v8 v9 o22 o25)) (h1 := (H114_8 v10 v8 o22 v9 o25)) (a2 := (st 34 [(0, anyV 0 v10.length), (8, iv v8), (9, iv v9)])) (h2 := (H114_8 v10 v8 o22 v9 o25)) [] (fun e he => by cases he) mixed (by kernel_rfl) rfl 14 (by kernel_rfl) [(13, 0)] ?_ rfl (.inr ⟨?_, (by kernel_rfl)⟩) ?_ [0, 8, 9] [0] (by kernel_rfl) ?_
   iterate 2
    · refine QI.r (qs (S114_7 v10 v8 v9) [lb101 v10] [] []) 6 (QI.o { val := pt 0 (0 + v9.toNat * 2) } (qs (S114_6 v10 v8 v9) [lb101 v10] [] []) (q_ixS 0 0 (v9.toNat * 2) (by kernel_rfl) hg21) (QI.o { val := ag [iv o22.1, iv o22.2] } (qs (S114_5 v10 v8 v9 o22) [lb101 v10] [] []) (q_nA Pg [lb101 v10] 101 0 (0 + v9.toNat * 2) v10 e101 2 101 v9.toNat (0, 0) h23) (QI.r (qs (S114_4 v10 v8 v9 o22) [lb101 v10] [] []) 2 (QI.o { val := pt 0 (0 + v8.toNat * 2) } (qs (S114_3 v10 v8 v9 o22) [lb101 v10] [] []) (q_ixS 0 0 (v8.toNat * 2) (by kernel_rfl) hg24) (QI.o { val := ag [iv o25.1, iv o25.2] } (qs (S114_2 v10 v8 v9 o22 o25) [lb101 v10] [] []) (q_nA Pg [lb101 v10] 101 0 (0 + v8.toNat * 2) v10 e101 2 101 v8.toNat (0, 0) h26) (QI.o { val := pt 0 (0 + v8.toNat * 2) } (qs (S114_1 v10 v8 v9 o22 o25) [lb101 v10] [] []) (q_ixS 0 0 (v8.toNat * 2) (by kernel_rfl) hg24) ?_))))))
      exact QI.o { val := undef, upd := some (0, lb101 (List.set v10 v8.toNat (o22.1, o22.2))) } (qs (S114_1 v10 v8 v9 o22 o25) (H114_9 v10 v8 o22) [] [(13, 0)]) (q_stP Pg 0 [lb101 v10] 101 0 (0 + v8.toNat * 2) v10 e101 2 101 v8.toNat 0 2 (ag [iv o22.1, iv o22.2]) [iv o22.1, iv o22.2] (0, 0) (o22.1, o22.2) (by first | omega | (simp <;> omega))) (QI.done (by kernel_rfl))
   · refine SI.o { val := pt 0 (0 + v9.toNat * 2) } (S114_0 v10 v8 v9 o22 o25) (H114_9 v10 v8 o22) (q_ixS 0 0 (v9.toNat * 2) (by kernel_rfl) hg21) ?_
     exact SI.o { val := undef, upd := some (0, lb101 (List.set (List.set v10 v8.toNat (o22.1, o22.2)) v9.toNat (o25.1, o25.2))) } (S114_0 v10 v8 v9 o22 o25) (H114_8 v10 v8 o22 v9 o25) (q_stP Pg 0 (H114_9 v10 v8 o22) 101 0 (0 + v9.toNat * 2) (List.set v10 v8.toNat (o22.1, o22.2)) e101 2 101 v9.toNat 0 2 (ag [iv o25.1, iv o25.2]) [iv o25.1, iv o25.2] (0, 0) (o25.1, o25.2) (by first | omega | (simp <;> omega))) (SI.done (by kernel_rfl))
   refine TS.sq (TS.rg (TI.ra 3 [0, 8, 9] (st 34 [(0, anyV 0 v10.length), (8, iv (w64 (v8 + 1))), (9, iv v9)]) (TI.dq (TS.rg (TI.ra 3 [0, 8, 9] (st 34 [(0, anyV 0 v10.length), (8, iv (w64 (v8 + 1))), (9, iv (w64 (v9 - 1)))]) (TI.dn (NX.bk ?_)))))))
   exact Rd.again (a2 := (st 34 [(0, anyV 0 (List.length (List.set (List.set v10 v8.toNat (o22.1, o22.2)) v9.toNat (o25.1, o25.2)))), (8, iv (w64 (v8 + 1))), (9, iv (w64 (v9 - 1)))])) (h2 := (H114_8 v10 v8 o22 v9 o25)) (Wk.an [] Ats.l [anyV 0 v10.length, iv (w64 (v8 + 1)), iv (w64 (v9 - 1))] (.cons rav (.fl (.fl .nil)))) (ih (w64 (v8 + 1)) (w64 (v9 - 1)) (List.set (List.set v10 v8.toNat (o22.1, o22.2)) v9.toNat (o25.1, o25.2)) _ hF)
 replace hF := of_neg hF hc20
 refine TS.ex 0 (NX.sqX ?_)
 have hF := sj hF
 subst hF
 exact Rd.out (e := .exit 0) (by intro h; cases h) (And.intro rfl (Wk.an [] Ats.l [anyV 0 v10.length] (.cons rav .nil)))
theorem B114 (p0 : List I2) (p1 p2 : Int) (r : List I2) (hF : F114 p0 p1 p2 = some r) : TS Pg 0 1 c114 (st 34 [(0, anyV 0 p0.length), (1, iv p1), (2, iv p2)]) [lb101 p0] (NX Pg 0 1 [] (SortFin Pg Try.f114 [lb101 r] (.tuple #[]))) := by
 unfold F114 at hF
 refine TS.sq (TS.rg (TI.ra 2 [0, 2, 8] (st 34 [(0, anyV 0 p0.length), (2, iv p2), (8, iv p1)]) (TI.dq (TS.sq (TS.rg (TI.ra 3 [0, 8, 9] (st 34 [(0, anyV 0 p0.length), (8, iv p1), (9, iv (w64 (p2 - 1)))]) (TI.dn ?_)))))))
 refine NX.sq (TS.bk 0 ?_)
 obtain ⟨r27, h28, hF⟩ := of_do hF
 refine TS.lp (TL.weak (a2 := (st 34 [(0, anyV 0 p0.length), (8, iv p1), (9, iv (w64 (p2 - 1)))])) (h2 := [lb101 p0]) (Wk.an [] Ats.l [anyV 0 p0.length, iv p1, iv (w64 (p2 - 1))] (.cons rav (.fl (.fl .nil)))) (TL.post (L114l0  p1 (w64 (p2 - 1)) p0 r27 h28) ?_))
 rintro e a1 h1 hp
 obtain ⟨rfl, hw⟩ := hp
 refine ⟨(st 34 [(0, anyV 0 r27.length)]), [lb101 r27], (NX.bkX ?_), hw⟩
 have hF := sj hF
 subst hF
 exact ⟨.inl rfl, rfl, rfl, by kernel_rfl⟩
theorem C114 (p0 : List I2) (k : Nat) (hk : List.length p0 = k) (p1 p2 : Int) (r : List I2) (hF : F114 p0 p1 p2 = some r) : ImpSim Pg 114 [anyV 0 k, iv p1, iv p2, fn 87] 0 [lb101 p0] (.tuple #[]) [lb101 r] := by
 subst hk
 exact ImpSim.of_TS (fn := Try.f114) (c := c114) (by kernel_rfl) (by kernel_rfl) (by kernel_rfl) (Nat.le_refl _) (TS.weak (a2 := (st 34 [(0, anyV 0 p0.length), (1, iv p1), (2, iv p2)])) (h2 := [lb101 p0]) (Eq.mp (by kernel_rfl) (Wk.tm (P := Pg) (base := 0) (L := 1) (a := { tmps := [anyV 0 p0.length, iv p1, iv p2, fn 87] ++ List.replicate 30 undef }) (h := [lb101 p0]) [0, 1, 2])) (B114 p0 p1 p2 r hF))
noncomputable def c116 : Code := Try.f116.code
def S116_14 (v90 : List I2) (p1 r209 r246 : Int) : CAct := (st 90 [(0, anyV 0 v90.length), (1, iv p1), (4, fn 87), (11, iv r209), (12, iv r246), (70, .bool (decide (r209 > r246))), (71, anyV 0 v90.length), (72, iv r209), (73, anyV 0 v90.length), (74, iv r246), (75, anyV 0 v90.length), (76, iv r246)])
def S116_11 (v90 : List I2) (p1 r209 r246 : Int) : CAct := sx (S116_14 v90 p1 r209 r246) [(77, pt 0 (0 + r246.toNat * 2))]
def S116_9 (v90 : List I2) (p1 r209 r246 : Int) (o251 : I2) : CAct := sx (S116_11 v90 p1 r209 r246) [(78, ag [iv o251.1, iv o251.2])]
def S116_7 (v90 : List I2) (p1 r209 r246 : Int) (o251 : I2) : CAct := sx (S116_9 v90 p1 r209 r246 o251) [(79, anyV 0 v90.length), (80, iv r209)]
def S116_5 (v90 : List I2) (p1 r209 r246 : Int) (o251 : I2) : CAct := sx (S116_7 v90 p1 r209 r246 o251) [(81, pt 0 (0 + r209.toNat * 2))]
def S116_3 (v90 : List I2) (p1 r209 r246 : Int) (o251 o254 : I2) : CAct := sx (S116_5 v90 p1 r209 r246 o251) [(82, ag [iv o254.1, iv o254.2])]
def S116_1 (v90 : List I2) (p1 r209 r246 : Int) (o251 o254 : I2) : CAct := sx (S116_3 v90 p1 r209 r246 o251 o254) [(83, pt 0 (0 + r209.toNat * 2))]
def S116_0 (v90 : List I2) (p1 r209 r246 : Int) (o251 o254 : I2) : CAct := sx (S116_1 v90 p1 r209 r246 o251 o254) [(84, pt 0 (0 + r246.toNat * 2))]
def S116_15 (p0 : List I2) (p1 p2 p3 : Int) : CAct := (st 90 [(0, anyV 0 p0.length), (1, iv p1), (2, iv p2), (3, iv p3), (4, fn 87), (13, anyV 0 p0.length), (14, iv p1), (15, anyV 0 p0.length), (16, iv p3), (17, anyV 0 p0.length), (18, iv p3)])
def S116_13 (p0 : List I2) (p1 p2 p3 : Int) : CAct := sx (S116_15 p0 p1 p2 p3) [(19, pt 0 (0 + p3.toNat * 2))]
def S116_12 (p0 : List I2) (p1 p2 p3 : Int) (o2 : I2) : CAct := sx (S116_13 p0 p1 p2 p3) [(20, ag [iv o2.1, iv o2.2])]
def S116_10 (p0 : List I2) (p1 p2 p3 : Int) (o2 : I2) : CAct := sx (S116_12 p0 p1 p2 p3 o2) [(21, anyV 0 p0.length), (22, iv p1)]
def S116_8 (p0 : List I2) (p1 p2 p3 : Int) (o2 : I2) : CAct := sx (S116_10 p0 p1 p2 p3 o2) [(23, pt 0 (0 + p1.toNat * 2))]
def S116_6 (p0 : List I2) (p1 p2 p3 : Int) (o2 o5 : I2) : CAct := sx (S116_8 p0 p1 p2 p3 o2) [(24, ag [iv o5.1, iv o5.2])]
def S116_4 (p0 : List I2) (p1 p2 p3 : Int) (o2 o5 : I2) : CAct := sx (S116_6 p0 p1 p2 p3 o2 o5) [(25, pt 0 (0 + p1.toNat * 2))]
def S116_2 (p0 : List I2) (p1 p2 p3 : Int) (o2 o5 : I2) : CAct := sx (S116_4 p0 p1 p2 p3 o2 o5) [(26, pt 0 (0 + p3.toNat * 2))]
def S116_18 (v90 : List I2) (p1 v88 v89 : Int) : CAct := (st 90 [(0, anyV 0 v90.length), (1, iv p1), (4, fn 87), (11, iv v88), (12, iv v89)])
def H116_16 (v90 : List I2) (r209 : Int) (o251 : I2) (r246 : Int) (o254 : I2) : List Blk := [lb101 (List.set (List.set v90 r209.toNat (o251.1, o251.2)) r246.toNat (o254.1, o254.2))]
def H116_17 (p0 : List I2) (p1 : Int) (o2 : I2) (p3 : Int) (o5 : I2) : List Blk := [lb101 (List.set (List.set p0 p1.toNat (o2.1, o2.2)) p3.toNat (o5.1, o5.2))]
def H116_19 (v90 : List I2) (r209 : Int) (o251 : I2) : List Blk := [lb101 (List.set v90 r209.toNat (o251.1, o251.2))]
def H116_20 (p0 : List I2) (p1 : Int) (o2 : I2) : List Blk := [lb101 (List.set p0 p1.toNat (o2.1, o2.2))]
def F116l1 (p1 v89 : Int) (v90 : List I2) (v185 : Int) : Option Int :=
 (
  if decide (v185 ≤ v89) then
   if (0 : Int) ≤ p1 ∧ p1 < (v90.length : Int) then
    some (List.getD v90 p1.toNat (0, 0)) >>= fun o200 =>
    if (0 : Int) ≤ v185 ∧ v185 < (v90.length : Int) then
     some (List.getD v90 v185.toNat (0, 0)) >>= fun o203 =>
     F87 o200.1 o200.2 o203.1 o203.2 >>= fun r205 =>
     some (!(decide (r205 < 0)))
    else none
   else none
  else
   some (false)
 : Option Bool) >>= fun m207 =>
 if m207 then
  F116l1 p1 v89 v90 (w64 (v185 + 1))
 else
  some v185
 partial_fixpoint
def F116l2 (p1 r209 : Int) (v90 : List I2) (v222 : Int) : Option Int :=
 (
  if decide (r209 ≤ v222) then
   if (0 : Int) ≤ p1 ∧ p1 < (v90.length : Int) then
    some (List.getD v90 p1.toNat (0, 0)) >>= fun o237 =>
    if (0 : Int) ≤ v222 ∧ v222 < (v90.length : Int) then
     some (List.getD v90 v222.toNat (0, 0)) >>= fun o240 =>
     F87 o237.1 o237.2 o240.1 o240.2 >>= fun r242 =>
     some (decide (r242 < 0))
    else none
   else none
  else
   some (false)
 : Option Bool) >>= fun m244 =>
 if m244 then
  F116l2 p1 r209 v90 (w64 (v222 - 1))
 else
  some v222
 partial_fixpoint
def F116l0 (p1 v88 v89 : Int) (v90 : List I2) : Option ((List I2) × Int) :=
 F116l1 p1 v89 v90 v88 >>= fun r209 =>
 F116l2 p1 r209 v90 v89 >>= fun r246 =>
 if decide (r209 > r246) then
  some (v90, r209)
 else
  if (0 : Int) ≤ r246 ∧ r246 < (v90.length : Int) then
   some (List.getD v90 r246.toNat (0, 0)) >>= fun o251 =>
   if (0 : Int) ≤ r209 ∧ r209 < (v90.length : Int) then
    some (List.getD v90 r209.toNat (0, 0)) >>= fun o254 =>
    F116l0 p1 (w64 (r209 + 1)) (w64 (r246 - 1)) (List.set (List.set v90 r209.toNat (o251.1, o251.2)) r246.toNat (o254.1, o254.2))
   else none
  else none
 partial_fixpoint
def F116 (p0 : List I2) (p1 p2 p3 : Int) : Option (Int × (List I2)) :=
 if (0 : Int) ≤ p3 ∧ p3 < (p0.length : Int) then
  some (List.getD p0 p3.toNat (0, 0)) >>= fun o2 =>
  if (0 : Int) ≤ p1 ∧ p1 < (p0.length : Int) then
   some (List.getD p0 p1.toNat (0, 0)) >>= fun o5 =>
   F116l0 p1 (w64 (p1 + 1)) (w64 (p2 - 1)) (List.set (List.set p0 p1.toNat (o2.1, o2.2)) p3.toNat (o5.1, o5.2)) >>= fun r256 =>
   some (r256.2, r256.1)
  else none
 else none
def P116l1 (p1 v89 : Int) (v90 : List I2) (r : Int) : Post := fun e a h => e = .exit 2 ∧ Wk Pg 0 1 a h (st 90 [(0, anyV 0 v90.length), (1, iv p1), (4, fn 87), (11, iv r), (12, iv v89)]) [lb101 v90]
theorem L116l1 (p1 v89 : Int) (v90 : List I2) (v185 r : Int) (hF : F116l1 p1 v89 v90 v185 = some r) : TL Pg 0 1 c116.s2.s2.s2.s1.bd.bd.bd.s1.bd.bd (st 90 [(0, anyV 0 v90.length), (1, iv p1), (4, fn 87), (11, iv v185), (12, iv v89)]) [lb101 v90] (P116l1 p1 v89 v90 r) := by
 refine F116l1.partial_correctness p1 v89 v90 (motive := fun v185 r => TL Pg 0 1 c116.s2.s2.s2.s1.bd.bd.bd.s1.bd.bd (st 90 [(0, anyV 0 v90.length), (1, iv p1), (4, fn 87), (11, iv v185), (12, iv v89)]) [lb101 v90] (P116l1 p1 v89 v90 r)) ?_ v185 r hF
 clear hF r v185
 intro again ih v185 r hF
 refine TL.round (TS.sq (TS.sq ?_))
 obtain ⟨m207, hm208, hF⟩ := of_do hF
 have hK : NX Pg 0 1 [.sq c116.s2.s2.s2.s1.bd.bd.bd.s1.bd.bd.s1.s2, .sq c116.s2.s2.s2.s1.bd.bd.bd.s1.bd.bd.s2] (Rd Pg 0 1 c116.s2.s2.s2.s1.bd.bd.bd.s1.bd.bd (P116l1 p1 v89 v90 r)) .normal (st 90 [(0, anyV 0 v90.length), (1, iv p1), (4, fn 87), (11, iv v185), (12, iv v89), (47, .bool m207)]) [lb101 v90] := by
  refine NX.sq ?_
  cases m207 with
  | true =>
   replace hF := of_pos hF rfl
   refine TS.cdT (.tmp 47) (TS.sk (NX.sq (TS.bk 3 (TS.rg (TI.ra 3 [0, 1, 4, 11, 12] (st 90 [(0, anyV 0 v90.length), (1, iv p1), (4, fn 87), (11, iv (w64 (v185 + 1))), (12, iv v89)]) (TI.dn (NX.bk ?_)))))))
   exact Rd.again (a2 := (st 90 [(0, anyV 0 v90.length), (1, iv p1), (4, fn 87), (11, iv (w64 (v185 + 1))), (12, iv v89)])) (h2 := [lb101 v90]) (Wk.an [] Ats.l [anyV 0 v90.length, iv p1, fn 87, iv (w64 (v185 + 1)), iv v89] (.cons rav (.fl (.cons (Rn.func' .nil .nil) (.fl (.fl .nil)))))) (ih (w64 (v185 + 1)) _ hF)
  | false =>
   replace hF := of_neg hF rfl
   refine TS.cdF (.tmp 47) (TS.ex 2 (NX.sqX ?_))
   have hF := sj hF
   subst hF
   exact Rd.out (e := .exit 2) (by intro h; cases h) (And.intro rfl (Wk.an [] Ats.l [anyV 0 v90.length, iv p1, fn 87, iv v185, iv v89] (.cons rav (.fl (.cons (Rn.func' .nil .nil) (.fl (.fl .nil)))))))
 rcases Bool.eq_false_or_eq_true (decide (v185 ≤ v89)) with hc198 | hc198
 · replace hm208 := of_pos hm208 hc198
   obtain ⟨hg199, hm208⟩ := of_guard hm208
   obtain ⟨o200, h201, hm208⟩ := of_do hm208
   replace h201 := sj h201
   obtain ⟨hg202, hm208⟩ := of_guard hm208
   obtain ⟨o203, h204, hm208⟩ := of_do hm208
   replace h204 := sj h204
   obtain ⟨r205, h206, hm208⟩ := of_do hm208
   have hm208 := sj hm208
   subst hm208
   have hT : ∀ e ∈ ([⟨87, [ag [iv o200.1, iv o200.2], ag [iv o203.1, iv o203.2]], [lb101 v90], iv r205, []⟩] : List Entry), PureSim Pg e.g e.args e.h e.v e.new := by
    intro e he
    simp only [List.mem_cons, List.not_mem_nil, or_false] at he
    rcases he with rfl
    exact PureSim.ak (C87 _ _ _ _ _ h206)
   refine TS.dp [⟨87, [ag [iv o200.1, iv o200.2], ag [iv o203.1, iv o203.2]], [lb101 v90], iv r205, []⟩] hT mixed 13 [0, 1, 4, 11, 12, 47] [0] (st 90 [(0, anyV 0 v90.length), (1, iv p1), (4, fn 87), (11, iv v185), (12, iv v89), (47, .bool (!(decide (r205 < 0))))]) [lb101 v90] ?_ ?_
   · refine QJ.rn (qs (st 90 [(0, anyV 0 v90.length), (1, iv p1), (4, fn 87), (11, iv v185), (12, iv v89), (31, iv v185), (32, iv v89)]) [lb101 v90] [] []) 2 (QJ.o { val := .bool true } (q_conv (e := decide (v185 ≤ v89)) (b := true) (by kernel_rfl) hc198) (QJ.rn (qs (st 90 [(0, anyV 0 v90.length), (1, iv p1), (4, fn 87), (11, iv v185), (12, iv v89), (31, iv v185), (32, iv v89), (33, .bool true), (34, .bool true), (35, fn 87), (36, anyV 0 v90.length), (37, iv p1)]) [lb101 v90] [] []) 4 (QJ.o { val := pt 0 (0 + p1.toNat * 2) } (q_ixS 0 0 (p1.toNat * 2) (by kernel_rfl) hg199) (QJ.o { val := ag [iv o200.1, iv o200.2] } (q_nA Pg [lb101 v90] 101 0 (0 + p1.toNat * 2) v90 e101 2 101 p1.toNat (0, 0) h201) (QJ.rn (qs (st 90 [(0, anyV 0 v90.length), (1, iv p1), (4, fn 87), (11, iv v185), (12, iv v89), (31, iv v185), (32, iv v89), (33, .bool true), (34, .bool true), (35, fn 87), (36, anyV 0 v90.length), (37, iv p1), (38, pt 0 (0 + p1.toNat * 2)), (39, ag [iv o200.1, iv o200.2]), (40, anyV 0 v90.length), (41, iv v185)]) [lb101 v90] [] []) 2 (QJ.o { val := pt 0 (0 + v185.toNat * 2) } (q_ixS 0 0 (v185.toNat * 2) (by kernel_rfl) hg202) (QJ.o { val := ag [iv o203.1, iv o203.2] } (q_nA Pg [lb101 v90] 101 0 (0 + v185.toNat * 2) v90 e101 2 101 v185.toNat (0, 0) h204) (QJ.dn ⟨rfl, ?_⟩))))))))
     exact SJ.o { val := iv r205, new := [] } (qOf_call (g := 87) (args := [ag [iv o200.1, iv o200.2], ag [iv o203.1, iv o203.2]]) (by kernel_rfl) lookC_hit) SJ.la
   exact hK
 replace hm208 := of_neg hm208 hc198
 have hm208 := sj hm208
 subst hm208
 refine TS.dp [] (fun e he => by cases he) mixed 13 [0, 1, 4, 11, 12, 47] [0] (st 90 [(0, anyV 0 v90.length), (1, iv p1), (4, fn 87), (11, iv v185), (12, iv v89), (47, .bool false)]) [lb101 v90] ?_ ?_
 · exact QJ.rn (qs (st 90 [(0, anyV 0 v90.length), (1, iv p1), (4, fn 87), (11, iv v185), (12, iv v89), (31, iv v185), (32, iv v89)]) [lb101 v90] [] []) 2 (QJ.o { val := .bool false } (q_conv (e := decide (v185 ≤ v89)) (b := false) (by kernel_rfl) hc198) (QJ.rn (qs (st 90 [(0, anyV 0 v90.length), (1, iv p1), (4, fn 87), (11, iv v185), (12, iv v89), (31, iv v185), (32, iv v89), (33, .bool false), (34, .bool false), (35, undef), (36, undef), (37, undef), (38, undef), (39, undef), (40, undef), (41, undef), (42, undef), (43, undef)]) [lb101 v90] [] []) 10 (QJ.dn ⟨rfl, SJ.la⟩)))
 exact hK
def P116l2 (p1 r209 : Int) (v90 : List I2) (r : Int) : Post := fun e a h => e = .exit 4 ∧ Wk Pg 0 1 a h (st 90 [(0, anyV 0 v90.length), (1, iv p1), (4, fn 87), (11, iv r209), (12, iv r)]) [lb101 v90]
theorem L116l2 (p1 r209 : Int) (v90 : List I2) (v222 r : Int) (hF : F116l2 p1 r209 v90 v222 = some r) : TL Pg 0 1 c116.s2.s2.s2.s1.bd.bd.bd.s2.s1.bd.bd (st 90 [(0, anyV 0 v90.length), (1, iv p1), (4, fn 87), (11, iv r209), (12, iv v222)]) [lb101 v90] (P116l2 p1 r209 v90 r) := by
 refine F116l2.partial_correctness p1 r209 v90 (motive := fun v222 r => TL Pg 0 1 c116.s2.s2.s2.s1.bd.bd.bd.s2.s1.bd.bd (st 90 [(0, anyV 0 v90.length), (1, iv p1), (4, fn 87), (11, iv r209), (12, iv v222)]) [lb101 v90] (P116l2 p1 r209 v90 r)) ?_ v222 r hF
 clear hF r v222
 intro again ih v222 r hF
 refine TL.round (TS.sq (TS.sq ?_))
 obtain ⟨m244, hm245, hF⟩ := of_do hF
 have hK : NX Pg 0 1 [.sq c116.s2.s2.s2.s1.bd.bd.bd.s2.s1.bd.bd.s1.s2, .sq c116.s2.s2.s2.s1.bd.bd.bd.s2.s1.bd.bd.s2] (Rd Pg 0 1 c116.s2.s2.s2.s1.bd.bd.bd.s2.s1.bd.bd (P116l2 p1 r209 v90 r)) .normal (st 90 [(0, anyV 0 v90.length), (1, iv p1), (4, fn 87), (11, iv r209), (12, iv v222), (65, .bool m244)]) [lb101 v90] := by
  refine NX.sq ?_
  cases m244 with
  | true =>
   replace hF := of_pos hF rfl
   refine TS.cdT (.tmp 65) (TS.sk (NX.sq (TS.bk 5 (TS.rg (TI.ra 3 [0, 1, 4, 11, 12] (st 90 [(0, anyV 0 v90.length), (1, iv p1), (4, fn 87), (11, iv r209), (12, iv (w64 (v222 - 1)))]) (TI.dn (NX.bk ?_)))))))
   exact Rd.again (a2 := (st 90 [(0, anyV 0 v90.length), (1, iv p1), (4, fn 87), (11, iv r209), (12, iv (w64 (v222 - 1)))])) (h2 := [lb101 v90]) (Wk.an [] Ats.l [anyV 0 v90.length, iv p1, fn 87, iv r209, iv (w64 (v222 - 1))] (.cons rav (.fl (.cons (Rn.func' .nil .nil) (.fl (.fl .nil)))))) (ih (w64 (v222 - 1)) _ hF)
  | false =>
   replace hF := of_neg hF rfl
   refine TS.cdF (.tmp 65) (TS.ex 4 (NX.sqX ?_))
   have hF := sj hF
   subst hF
   exact Rd.out (e := .exit 4) (by intro h; cases h) (And.intro rfl (Wk.an [] Ats.l [anyV 0 v90.length, iv p1, fn 87, iv r209, iv v222] (.cons rav (.fl (.cons (Rn.func' .nil .nil) (.fl (.fl .nil)))))))
 rcases Bool.eq_false_or_eq_true (decide (r209 ≤ v222)) with hc235 | hc235
 · replace hm245 := of_pos hm245 hc235
   obtain ⟨hg236, hm245⟩ := of_guard hm245
   obtain ⟨o237, h238, hm245⟩ := of_do hm245
   replace h238 := sj h238
   obtain ⟨hg239, hm245⟩ := of_guard hm245
   obtain ⟨o240, h241, hm245⟩ := of_do hm245
   replace h241 := sj h241
   obtain ⟨r242, h243, hm245⟩ := of_do hm245
   have hm245 := sj hm245
   subst hm245
   have hT : ∀ e ∈ ([⟨87, [ag [iv o237.1, iv o237.2], ag [iv o240.1, iv o240.2]], [lb101 v90], iv r242, []⟩] : List Entry), PureSim Pg e.g e.args e.h e.v e.new := by
    intro e he
    simp only [List.mem_cons, List.not_mem_nil, or_false] at he
    rcases he with rfl
    exact PureSim.ak (C87 _ _ _ _ _ h243)
   refine TS.dp [⟨87, [ag [iv o237.1, iv o237.2], ag [iv o240.1, iv o240.2]], [lb101 v90], iv r242, []⟩] hT mixed 13 [0, 1, 4, 11, 12, 65] [0] (st 90 [(0, anyV 0 v90.length), (1, iv p1), (4, fn 87), (11, iv r209), (12, iv v222), (65, .bool (decide (r242 < 0)))]) [lb101 v90] ?_ ?_
   · refine QJ.rn (qs (st 90 [(0, anyV 0 v90.length), (1, iv p1), (4, fn 87), (11, iv r209), (12, iv v222), (50, iv r209), (51, iv v222)]) [lb101 v90] [] []) 2 (QJ.o { val := .bool true } (q_conv (e := decide (r209 ≤ v222)) (b := true) (by kernel_rfl) hc235) (QJ.rn (qs (st 90 [(0, anyV 0 v90.length), (1, iv p1), (4, fn 87), (11, iv r209), (12, iv v222), (50, iv r209), (51, iv v222), (52, .bool true), (53, .bool true), (54, fn 87), (55, anyV 0 v90.length), (56, iv p1)]) [lb101 v90] [] []) 4 (QJ.o { val := pt 0 (0 + p1.toNat * 2) } (q_ixS 0 0 (p1.toNat * 2) (by kernel_rfl) hg236) (QJ.o { val := ag [iv o237.1, iv o237.2] } (q_nA Pg [lb101 v90] 101 0 (0 + p1.toNat * 2) v90 e101 2 101 p1.toNat (0, 0) h238) (QJ.rn (qs (st 90 [(0, anyV 0 v90.length), (1, iv p1), (4, fn 87), (11, iv r209), (12, iv v222), (50, iv r209), (51, iv v222), (52, .bool true), (53, .bool true), (54, fn 87), (55, anyV 0 v90.length), (56, iv p1), (57, pt 0 (0 + p1.toNat * 2)), (58, ag [iv o237.1, iv o237.2]), (59, anyV 0 v90.length), (60, iv v222)]) [lb101 v90] [] []) 2 (QJ.o { val := pt 0 (0 + v222.toNat * 2) } (q_ixS 0 0 (v222.toNat * 2) (by kernel_rfl) hg239) (QJ.o { val := ag [iv o240.1, iv o240.2] } (q_nA Pg [lb101 v90] 101 0 (0 + v222.toNat * 2) v90 e101 2 101 v222.toNat (0, 0) h241) (QJ.dn ⟨rfl, ?_⟩))))))))
     exact SJ.o { val := iv r242, new := [] } (qOf_call (g := 87) (args := [ag [iv o237.1, iv o237.2], ag [iv o240.1, iv o240.2]]) (by kernel_rfl) lookC_hit) SJ.la
   exact hK
 replace hm245 := of_neg hm245 hc235
 have hm245 := sj hm245
 subst hm245
 refine TS.dp [] (fun e he => by cases he) mixed 13 [0, 1, 4, 11, 12, 65] [0] (st 90 [(0, anyV 0 v90.length), (1, iv p1), (4, fn 87), (11, iv r209), (12, iv v222), (65, .bool false)]) [lb101 v90] ?_ ?_
 · exact QJ.rn (qs (st 90 [(0, anyV 0 v90.length), (1, iv p1), (4, fn 87), (11, iv r209), (12, iv v222), (50, iv r209), (51, iv v222)]) [lb101 v90] [] []) 2 (QJ.o { val := .bool false } (q_conv (e := decide (r209 ≤ v222)) (b := false) (by kernel_rfl) hc235) (QJ.rn (qs (st 90 [(0, anyV 0 v90.length), (1, iv p1), (4, fn 87), (11, iv r209), (12, iv v222), (50, iv r209), (51, iv v222), (52, .bool false), (53, .bool false), (54, undef), (55, undef), (56, undef), (57, undef), (58, undef), (59, undef), (60, undef), (61, undef), (62, undef)]) [lb101 v90] [] []) 10 (QJ.dn ⟨rfl, SJ.la⟩)))
 exact hK
def P116l0 (p1 : Int) (r : (List I2) × Int) : Post := fun e a h => e = .exit 0 ∧ Wk Pg 0 1 a h (st 90 [(0, anyV 0 r.1.length), (11, iv r.2)]) [lb101 r.1]
theorem L116l0 (p1 v88 v89 : Int) (v90 : List I2) (r : (List I2) × Int) (hF : F116l0 p1 v88 v89 v90 = some r) : TL Pg 0 1 c116.s2.s2.s2.s1.bd.bd (S116_18 v90 p1 v88 v89) [lb101 v90] (P116l0 p1 r) := by
 refine F116l0.partial_correctness p1 (motive := fun v88 v89 v90 r => TL Pg 0 1 c116.s2.s2.s2.s1.bd.bd (S116_18 v90 p1 v88 v89) [lb101 v90] (P116l0 p1 r)) ?_ v88 v89 v90 r hF
 clear hF r v88 v89 v90
 intro again ih v88 v89 v90 r hF
 refine TL.round (TS.bk 1 (TS.sq (TS.bk 2 ?_)))
 obtain ⟨r209, h210, hF⟩ := of_do hF
 refine TS.lp (TL.weak (a2 := (S116_18 v90 p1 v88 v89)) (h2 := [lb101 v90]) (Wk.an [] Ats.l [anyV 0 v90.length, iv p1, fn 87, iv v88, iv v89] (.cons rav (.fl (.cons (Rn.func' .nil .nil) (.fl (.fl .nil)))))) (TL.post (L116l1 p1 v89 v90 v88 r209 h210) ?_))
 rintro e a1 h1 hp
 obtain ⟨rfl, hw⟩ := hp
 refine ⟨(st 90 [(0, anyV 0 v90.length), (1, iv p1), (4, fn 87), (11, iv r209), (12, iv v89)]), [lb101 v90], (NX.bkX (NX.sq (TS.sq (TS.bk 4 ?_)))), hw⟩
 obtain ⟨r246, h247, hF⟩ := of_do hF
 refine TS.lp (TL.weak (a2 := (st 90 [(0, anyV 0 v90.length), (1, iv p1), (4, fn 87), (11, iv r209), (12, iv v89)])) (h2 := [lb101 v90]) (Wk.an [] Ats.l [anyV 0 v90.length, iv p1, fn 87, iv r209, iv v89] (.cons rav (.fl (.cons (Rn.func' .nil .nil) (.fl (.fl .nil)))))) (TL.post (L116l2 p1 r209 v90 v89 r246 h247) ?_))
 rintro e a1 h1 hp
 obtain ⟨rfl, hw⟩ := hp
 refine ⟨(st 90 [(0, anyV 0 v90.length), (1, iv p1), (4, fn 87), (11, iv r209), (12, iv r246)]), [lb101 v90], (NX.bkX (NX.sq (TS.sq (TS.sq (TS.rg (TI.ra 3 [0, 1, 4, 11, 12, 70] (st 90 [(0, anyV 0 v90.length), (1, iv p1), (4, fn 87), (11, iv r209), (12, iv r246), (70, .bool (decide (r209 > r246)))]) (TI.dq ?_))))))), hw⟩
 refine TS.cd (.tmp 70) (decide (r209 > r246)) (fun hc249 => ?_) (fun hc249 => ?_)
 · replace hF := of_pos hF hc249
   refine TS.ex 0 (NX.sqX (NX.bkY rfl ?_))
   have hF := sj hF
   subst hF
   exact Rd.out (e := .exit 0) (by intro h; cases h) (And.intro rfl (Wk.an [] Ats.l [anyV 0 v90.length, iv r209] (.cons rav (.fl .nil))))
 replace hF := of_neg hF hc249
 refine TS.sk (NX.sq (TS.sq ?_))
 obtain ⟨hg250, hF⟩ := of_guard hF
 obtain ⟨o251, h252, hF⟩ := of_do hF
 replace h252 := sj h252
 obtain ⟨hg253, hF⟩ := of_guard hF
 obtain ⟨o254, h255, hF⟩ := of_do hF
 replace h255 := sj h255
 refine TS.draw' (id := 8) (b := true) (ops := c116.s2.s2.s2.s1.bd.bd.bd.s2.s2.s2.s1.rops) (fin := (qs (S116_1 v90 p1 r209 r246 o251 o254) (H116_19 v90 r209 o251) [] [(13, 0)])) (fin2 := (qs (S116_1 v90 p1 r209 r246 o251 o254) (H116_19 v90 r209 o251) [] [(13, 0)])) (a1 := (S116_0 v90 p1 r209 r246 o251 o254)) (h1 := (H116_16 v90 r209 o251 r246 o254)) (a2 := (st 90 [(0, anyV 0 v90.length), (1, iv p1), (4, fn 87), (11, iv r209), (12, iv r246)])) (h2 := (H116_16 v90 r209 o251 r246 o254)) [] (fun e he => by cases he) mixed (by kernel_rfl) rfl 14 (by kernel_rfl) [(13, 0)] ?_ rfl (.inr ⟨?_, (by kernel_rfl)⟩) ?_ [0, 1, 4, 11, 12] [0] (by kernel_rfl) ?_
 iterate 2
  · refine QI.r (qs (S116_14 v90 p1 r209 r246) [lb101 v90] [] []) 6 (QI.o { val := pt 0 (0 + r246.toNat * 2) } (qs (S116_11 v90 p1 r209 r246) [lb101 v90] [] []) (q_ixS 0 0 (r246.toNat * 2) (by kernel_rfl) hg250) (QI.o { val := ag [iv o251.1, iv o251.2] } (qs (S116_9 v90 p1 r209 r246 o251) [lb101 v90] [] []) (q_nA Pg [lb101 v90] 101 0 (0 + r246.toNat * 2) v90 e101 2 101 r246.toNat (0, 0) h252) (QI.r (qs (S116_7 v90 p1 r209 r246 o251) [lb101 v90] [] []) 2 (QI.o { val := pt 0 (0 + r209.toNat * 2) } (qs (S116_5 v90 p1 r209 r246 o251) [lb101 v90] [] []) (q_ixS 0 0 (r209.toNat * 2) (by kernel_rfl) hg253) (QI.o { val := ag [iv o254.1, iv o254.2] } (qs (S116_3 v90 p1 r209 r246 o251 o254) [lb101 v90] [] []) (q_nA Pg [lb101 v90] 101 0 (0 + r209.toNat * 2) v90 e101 2 101 r209.toNat (0, 0) h255) (QI.o { val := pt 0 (0 + r209.toNat * 2) } (qs (S116_1 v90 p1 r209 r246 o251 o254) [lb101 v90] [] []) (q_ixS 0 0 (r209.toNat * 2) (by kernel_rfl) hg253) ?_))))))
    exact QI.o { val := undef, upd := some (0, lb101 (List.set v90 r209.toNat (o251.1, o251.2))) } (qs (S116_1 v90 p1 r209 r246 o251 o254) (H116_19 v90 r209 o251) [] [(13, 0)]) (q_stP Pg 0 [lb101 v90] 101 0 (0 + r209.toNat * 2) v90 e101 2 101 r209.toNat 0 2 (ag [iv o251.1, iv o251.2]) [iv o251.1, iv o251.2] (0, 0) (o251.1, o251.2) (by first | omega | (simp <;> omega))) (QI.done (by kernel_rfl))
 · refine SI.o { val := pt 0 (0 + r246.toNat * 2) } (S116_0 v90 p1 r209 r246 o251 o254) (H116_19 v90 r209 o251) (q_ixS 0 0 (r246.toNat * 2) (by kernel_rfl) hg250) ?_
   exact SI.o { val := undef, upd := some (0, lb101 (List.set (List.set v90 r209.toNat (o251.1, o251.2)) r246.toNat (o254.1, o254.2))) } (S116_0 v90 p1 r209 r246 o251 o254) (H116_16 v90 r209 o251 r246 o254) (q_stP Pg 0 (H116_19 v90 r209 o251) 101 0 (0 + r246.toNat * 2) (List.set v90 r209.toNat (o251.1, o251.2)) e101 2 101 r246.toNat 0 2 (ag [iv o254.1, iv o254.2]) [iv o254.1, iv o254.2] (0, 0) (o254.1, o254.2) (by first | omega | (simp <;> omega))) (SI.done (by kernel_rfl))
 refine TS.sq (TS.rg (TI.ra 3 [0, 1, 4, 11, 12] (st 90 [(0, anyV 0 v90.length), (1, iv p1), (4, fn 87), (11, iv (w64 (r209 + 1))), (12, iv r246)]) (TI.dq (TS.rg (TI.ra 3 [0, 1, 4, 11, 12] (st 90 [(0, anyV 0 v90.length), (1, iv p1), (4, fn 87), (11, iv (w64 (r209 + 1))), (12, iv (w64 (r246 - 1)))]) (TI.dn (NX.bk ?_)))))))
 exact Rd.again (a2 := (st 90 [(0, anyV 0 (List.length (List.set (List.set v90 r209.toNat (o251.1, o251.2)) r246.toNat (o254.1, o254.2)))), (1, iv p1), (4, fn 87), (11, iv (w64 (r209 + 1))), (12, iv (w64 (r246 - 1)))])) (h2 := (H116_16 v90 r209 o251 r246 o254)) (Wk.an [] Ats.l [anyV 0 v90.length, iv p1, fn 87, iv (w64 (r209 + 1)), iv (w64 (r246 - 1))] (.cons rav (.fl (.cons (Rn.func' .nil .nil) (.fl (.fl .nil)))))) (ih (w64 (r209 + 1)) (w64 (r246 - 1)) (List.set (List.set v90 r209.toNat (o251.1, o251.2)) r246.toNat (o254.1, o254.2)) _ hF)
theorem B116 (p0 : List I2) (p1 p2 p3 : Int) (r : Int × (List I2)) (hF : F116 p0 p1 p2 p3 = some r) : TS Pg 0 1 c116 (st 90 [(0, anyV 0 p0.length), (1, iv p1), (2, iv p2), (3, iv p3), (4, fn 87)]) [lb101 p0] (NX Pg 0 1 [] (SortFin Pg Try.f116 [lb101 r.2] (iv r.1))) := by
 unfold F116 at hF
 refine TS.sq (TS.rg (TI.ra 1 [0, 1, 2, 3, 4] (st 90 [(0, anyV 0 p0.length), (1, iv p1), (2, iv p2), (3, iv p3), (4, fn 87)]) (TI.dq (TS.sq ?_))))
 obtain ⟨hg1, hF⟩ := of_guard hF
 obtain ⟨o2, h3, hF⟩ := of_do hF
 replace h3 := sj h3
 obtain ⟨hg4, hF⟩ := of_guard hF
 obtain ⟨o5, h6, hF⟩ := of_do hF
 replace h6 := sj h6
 refine TS.draw' (id := 1) (b := true) (ops := c116.s2.s1.rops) (fin := (qs (S116_4 p0 p1 p2 p3 o2 o5) (H116_20 p0 p1 o2) [] [(13, 0)])) (fin2 := (qs (S116_4 p0 p1 p2 p3 o2 o5) (H116_20 p0 p1 o2) [] [(13, 0)])) (a1 := (S116_2 p0 p1 p2 p3 o2 o5)) (h1 := (H116_17 p0 p1 o2 p3 o5)) (a2 := (st 90 [(0, anyV 0 p0.length), (1, iv p1), (2, iv p2), (4, fn 87)])) (h2 := (H116_17 p0 p1 o2 p3 o5)) [] (fun e he => by cases he) mixed (by kernel_rfl) rfl 14 (by kernel_rfl) [(13, 0)] ?_ rfl (.inr ⟨?_, (by kernel_rfl)⟩) ?_ [0, 1, 2, 4] [0] (by kernel_rfl) ?_
 iterate 2
  · refine QI.r (qs (S116_15 p0 p1 p2 p3) [lb101 p0] [] []) 6 (QI.o { val := pt 0 (0 + p3.toNat * 2) } (qs (S116_13 p0 p1 p2 p3) [lb101 p0] [] []) (q_ixS 0 0 (p3.toNat * 2) (by kernel_rfl) hg1) (QI.o { val := ag [iv o2.1, iv o2.2] } (qs (S116_12 p0 p1 p2 p3 o2) [lb101 p0] [] []) (q_nA Pg [lb101 p0] 101 0 (0 + p3.toNat * 2) p0 e101 2 101 p3.toNat (0, 0) h3) (QI.r (qs (S116_10 p0 p1 p2 p3 o2) [lb101 p0] [] []) 2 (QI.o { val := pt 0 (0 + p1.toNat * 2) } (qs (S116_8 p0 p1 p2 p3 o2) [lb101 p0] [] []) (q_ixS 0 0 (p1.toNat * 2) (by kernel_rfl) hg4) (QI.o { val := ag [iv o5.1, iv o5.2] } (qs (S116_6 p0 p1 p2 p3 o2 o5) [lb101 p0] [] []) (q_nA Pg [lb101 p0] 101 0 (0 + p1.toNat * 2) p0 e101 2 101 p1.toNat (0, 0) h6) (QI.o { val := pt 0 (0 + p1.toNat * 2) } (qs (S116_4 p0 p1 p2 p3 o2 o5) [lb101 p0] [] []) (q_ixS 0 0 (p1.toNat * 2) (by kernel_rfl) hg4) ?_))))))
    exact QI.o { val := undef, upd := some (0, lb101 (List.set p0 p1.toNat (o2.1, o2.2))) } (qs (S116_4 p0 p1 p2 p3 o2 o5) (H116_20 p0 p1 o2) [] [(13, 0)]) (q_stP Pg 0 [lb101 p0] 101 0 (0 + p1.toNat * 2) p0 e101 2 101 p1.toNat 0 2 (ag [iv o2.1, iv o2.2]) [iv o2.1, iv o2.2] (0, 0) (o2.1, o2.2) (by first | omega | (simp <;> omega))) (QI.done (by kernel_rfl))
 · refine SI.o { val := pt 0 (0 + p3.toNat * 2) } (S116_2 p0 p1 p2 p3 o2 o5) (H116_20 p0 p1 o2) (q_ixS 0 0 (p3.toNat * 2) (by kernel_rfl) hg1) ?_
   exact SI.o { val := undef, upd := some (0, lb101 (List.set (List.set p0 p1.toNat (o2.1, o2.2)) p3.toNat (o5.1, o5.2))) } (S116_2 p0 p1 p2 p3 o2 o5) (H116_17 p0 p1 o2 p3 o5) (q_stP Pg 0 (H116_20 p0 p1 o2) 101 0 (0 + p3.toNat * 2) (List.set p0 p1.toNat (o2.1, o2.2)) e101 2 101 p3.toNat 0 2 (ag [iv o5.1, iv o5.2]) [iv o5.1, iv o5.2] (0, 0) (o5.1, o5.2) (by first | omega | (simp <;> omega))) (SI.done (by kernel_rfl))
 refine TS.sq (TS.rg (TI.ra 6 [0, 1, 4, 11, 12] (st 90 [(0, anyV 0 p0.length), (1, iv p1), (4, fn 87), (11, iv (w64 (p1 + 1))), (12, iv (w64 (p2 - 1)))]) (TI.dq (TS.sq (TS.bk 0 ?_)))))
 obtain ⟨r256, h257, hF⟩ := of_do hF
 refine TS.lp (TL.weak (a2 := (st 90 [(0, anyV 0 (List.length (List.set (List.set p0 p1.toNat (o2.1, o2.2)) p3.toNat (o5.1, o5.2)))), (1, iv p1), (4, fn 87), (11, iv (w64 (p1 + 1))), (12, iv (w64 (p2 - 1)))])) (h2 := (H116_17 p0 p1 o2 p3 o5)) (Wk.an [] Ats.l [anyV 0 p0.length, iv p1, fn 87, iv (w64 (p1 + 1)), iv (w64 (p2 - 1))] (.cons rav (.fl (.cons (Rn.func' .nil .nil) (.fl (.fl .nil)))))) (TL.post (L116l0 p1 (w64 (p1 + 1)) (w64 (p2 - 1)) (List.set (List.set p0 p1.toNat (o2.1, o2.2)) p3.toNat (o5.1, o5.2)) r256 h257) ?_))
 rintro e a1 h1 hp
 obtain ⟨rfl, hw⟩ := hp
 refine ⟨(st 90 [(0, anyV 0 r256.1.length), (11, iv r256.2)]), [lb101 r256.1], (NX.bkX (NX.sq (TS.sq (TS.rg (TI.ra 2 [0, 10] (st 90 [(0, anyV 0 r256.1.length), (10, iv r256.2)]) (TI.dq (TS.rt ?_))))))), hw⟩
 have hF := sj hF
 subst hF
 exact ⟨.inr rfl, rfl, rfl, by kernel_rfl⟩
theorem C116 (p0 : List I2) (k : Nat) (hk : List.length p0 = k) (p1 p2 p3 : Int) (r : Int × (List I2)) (hF : F116 p0 p1 p2 p3 = some r) : ImpSim Pg 116 [anyV 0 k, iv p1, iv p2, iv p3, fn 87] 0 [lb101 p0] (iv r.1) [lb101 r.2] := by
 subst hk
 exact ImpSim.of_TS (fn := Try.f116) (c := c116) (by kernel_rfl) (by kernel_rfl) (by kernel_rfl) (Nat.le_refl _) (TS.weak (a2 := (st 90 [(0, anyV 0 p0.length), (1, iv p1), (2, iv p2), (3, iv p3), (4, fn 87)])) (h2 := [lb101 p0]) (Eq.mp (by kernel_rfl) (Wk.tm (P := Pg) (base := 0) (L := 1) (a := { tmps := [anyV 0 p0.length, iv p1, iv p2, iv p3, fn 87] ++ List.replicate 85 undef }) (h := [lb101 p0]) [0, 1, 2, 3, 4])) (B116 p0 p1 p2 p3 r hF))
noncomputable def c117 : Code := Try.f117.code
def S117_33 (v176 : List I2) (p1 r295 r332 : Int) : CAct := (st 178 [(0, anyV 0 v176.length), (1, iv p1), (4, fn 87), (12, iv r295), (13, iv r332), (144, .bool (decide (r295 > r332))), (145, anyV 0 v176.length), (146, iv r295), (147, anyV 0 v176.length), (148, iv r332), (149, anyV 0 v176.length), (150, iv r332)])
def S117_28 (v176 : List I2) (p1 r295 r332 : Int) : CAct := sx (S117_33 v176 p1 r295 r332) [(151, pt 0 (0 + r332.toNat * 2))]
def S117_23 (v176 : List I2) (p1 r295 r332 : Int) (o337 : I2) : CAct := sx (S117_28 v176 p1 r295 r332) [(152, ag [iv o337.1, iv o337.2])]
def S117_18 (v176 : List I2) (p1 r295 r332 : Int) (o337 : I2) : CAct := sx (S117_23 v176 p1 r295 r332 o337) [(153, anyV 0 v176.length), (154, iv r295)]
def S117_11 (v176 : List I2) (p1 r295 r332 : Int) (o337 : I2) : CAct := sx (S117_18 v176 p1 r295 r332 o337) [(155, pt 0 (0 + r295.toNat * 2))]
def S117_8 (v176 : List I2) (p1 r295 r332 : Int) (o337 o340 : I2) : CAct := sx (S117_11 v176 p1 r295 r332 o337) [(156, ag [iv o340.1, iv o340.2])]
def S117_3 (v176 : List I2) (p1 r295 r332 : Int) (o337 o340 : I2) : CAct := sx (S117_8 v176 p1 r295 r332 o337 o340) [(157, pt 0 (0 + r295.toNat * 2))]
def S117_0 (v176 : List I2) (p1 r295 r332 : Int) (o337 o340 : I2) : CAct := sx (S117_3 v176 p1 r295 r332 o337 o340) [(158, pt 0 (0 + r332.toNat * 2))]
def S117_36 (p0 : List I2) (p1 r42 r79 : Int) : CAct := (st 178 [(0, anyV 0 p0.length), (1, iv p1), (4, fn 87), (12, iv r42), (13, iv r79), (71, .bool (decide (r42 > r79))), (87, anyV 0 p0.length), (88, iv r42), (89, anyV 0 p0.length), (90, iv r79), (91, anyV 0 p0.length), (92, iv r79)])
def S117_29 (p0 : List I2) (p1 r42 r79 : Int) : CAct := sx (S117_36 p0 p1 r42 r79) [(93, pt 0 (0 + r79.toNat * 2))]
def S117_25 (p0 : List I2) (p1 r42 r79 : Int) (o88 : I2) : CAct := sx (S117_29 p0 p1 r42 r79) [(94, ag [iv o88.1, iv o88.2])]
def S117_21 (p0 : List I2) (p1 r42 r79 : Int) (o88 : I2) : CAct := sx (S117_25 p0 p1 r42 r79 o88) [(95, anyV 0 p0.length), (96, iv r42)]
def S117_14 (p0 : List I2) (p1 r42 r79 : Int) (o88 : I2) : CAct := sx (S117_21 p0 p1 r42 r79 o88) [(97, pt 0 (0 + r42.toNat * 2))]
def S117_12 (p0 : List I2) (p1 r42 r79 : Int) (o88 o91 : I2) : CAct := sx (S117_14 p0 p1 r42 r79 o88) [(98, ag [iv o91.1, iv o91.2])]
def S117_6 (p0 : List I2) (p1 r42 r79 : Int) (o88 o91 : I2) : CAct := sx (S117_12 p0 p1 r42 r79 o88 o91) [(99, pt 0 (0 + r42.toNat * 2))]
def S117_1 (p0 : List I2) (p1 r42 r79 : Int) (o88 o91 : I2) : CAct := sx (S117_6 p0 p1 r42 r79 o88 o91) [(100, pt 0 (0 + r79.toNat * 2))]
def S117_37 (p0 : List I2) (p1 r42 r79 : Int) : CAct := (st 178 [(0, anyV 0 p0.length), (1, iv p1), (4, fn 87), (12, iv r42), (13, iv r79), (71, .bool (decide (r42 > r79))), (72, anyV 0 p0.length), (73, iv r79), (74, anyV 0 p0.length), (75, iv p1), (76, anyV 0 p0.length), (77, iv p1)])
def S117_30 (p0 : List I2) (p1 r42 r79 : Int) : CAct := sx (S117_37 p0 p1 r42 r79) [(78, pt 0 (0 + p1.toNat * 2))]
def S117_27 (p0 : List I2) (p1 r42 r79 : Int) (o82 : I2) : CAct := sx (S117_30 p0 p1 r42 r79) [(79, ag [iv o82.1, iv o82.2])]
def S117_22 (p0 : List I2) (p1 r42 r79 : Int) (o82 : I2) : CAct := sx (S117_27 p0 p1 r42 r79 o82) [(80, anyV 0 p0.length), (81, iv r79)]
def S117_15 (p0 : List I2) (p1 r42 r79 : Int) (o82 : I2) : CAct := sx (S117_22 p0 p1 r42 r79 o82) [(82, pt 0 (0 + r79.toNat * 2))]
def S117_13 (p0 : List I2) (p1 r42 r79 : Int) (o82 o85 : I2) : CAct := sx (S117_15 p0 p1 r42 r79 o82) [(83, ag [iv o85.1, iv o85.2])]
def S117_7 (p0 : List I2) (p1 r42 r79 : Int) (o82 o85 : I2) : CAct := sx (S117_13 p0 p1 r42 r79 o82 o85) [(84, pt 0 (0 + r79.toNat * 2))]
def S117_2 (p0 : List I2) (p1 r42 r79 : Int) (o82 o85 : I2) : CAct := sx (S117_7 p0 p1 r42 r79 o82 o85) [(85, pt 0 (0 + p1.toNat * 2))]
def S117_39 (r342 : (List I2) × Int) (p1 : Int) : CAct := (st 178 [(0, anyV 0 r342.1.length), (1, iv p1), (13, iv r342.2), (163, anyV 0 r342.1.length), (164, iv r342.2), (165, anyV 0 r342.1.length), (166, iv p1), (167, anyV 0 r342.1.length), (168, iv p1)])
def S117_35 (r342 : (List I2) × Int) (p1 : Int) : CAct := sx (S117_39 r342 p1) [(169, pt 0 (0 + p1.toNat * 2))]
def S117_32 (r342 : (List I2) × Int) (p1 : Int) (o345 : I2) : CAct := sx (S117_35 r342 p1) [(170, ag [iv o345.1, iv o345.2])]
def S117_24 (r342 : (List I2) × Int) (p1 : Int) (o345 : I2) : CAct := sx (S117_32 r342 p1 o345) [(171, anyV 0 r342.1.length), (172, iv r342.2)]
def S117_19 (r342 : (List I2) × Int) (p1 : Int) (o345 : I2) : CAct := sx (S117_24 r342 p1 o345) [(173, pt 0 (0 + (Int.toNat r342.2) * 2))]
def S117_16 (r342 : (List I2) × Int) (p1 : Int) (o345 o348 : I2) : CAct := sx (S117_19 r342 p1 o345) [(174, ag [iv o348.1, iv o348.2])]
def S117_9 (r342 : (List I2) × Int) (p1 : Int) (o345 o348 : I2) : CAct := sx (S117_16 r342 p1 o345 o348) [(175, pt 0 (0 + (Int.toNat r342.2) * 2))]
def S117_4 (r342 : (List I2) × Int) (p1 : Int) (o345 o348 : I2) : CAct := sx (S117_9 r342 p1 o345 o348) [(176, pt 0 (0 + p1.toNat * 2))]
def S117_38 (p0 : List I2) (p1 p2 p3 : Int) : CAct := (st 178 [(0, anyV 0 p0.length), (1, iv p1), (2, iv p2), (3, iv p3), (4, fn 87), (14, anyV 0 p0.length), (15, iv p1), (16, anyV 0 p0.length), (17, iv p3), (18, anyV 0 p0.length), (19, iv p3)])
def S117_34 (p0 : List I2) (p1 p2 p3 : Int) : CAct := sx (S117_38 p0 p1 p2 p3) [(20, pt 0 (0 + p3.toNat * 2))]
def S117_31 (p0 : List I2) (p1 p2 p3 : Int) (o2 : I2) : CAct := sx (S117_34 p0 p1 p2 p3) [(21, ag [iv o2.1, iv o2.2])]
def S117_26 (p0 : List I2) (p1 p2 p3 : Int) (o2 : I2) : CAct := sx (S117_31 p0 p1 p2 p3 o2) [(22, anyV 0 p0.length), (23, iv p1)]
def S117_20 (p0 : List I2) (p1 p2 p3 : Int) (o2 : I2) : CAct := sx (S117_26 p0 p1 p2 p3 o2) [(24, pt 0 (0 + p1.toNat * 2))]
def S117_17 (p0 : List I2) (p1 p2 p3 : Int) (o2 o5 : I2) : CAct := sx (S117_20 p0 p1 p2 p3 o2) [(25, ag [iv o5.1, iv o5.2])]
def S117_10 (p0 : List I2) (p1 p2 p3 : Int) (o2 o5 : I2) : CAct := sx (S117_17 p0 p1 p2 p3 o2 o5) [(26, pt 0 (0 + p1.toNat * 2))]
def S117_5 (p0 : List I2) (p1 p2 p3 : Int) (o2 o5 : I2) : CAct := sx (S117_10 p0 p1 p2 p3 o2 o5) [(27, pt 0 (0 + p3.toNat * 2))]
def S117_46 (v176 : List I2) (p1 v174 v175 : Int) : CAct := (st 178 [(0, anyV 0 v176.length), (1, iv p1), (4, fn 87), (12, iv v174), (13, iv v175)])
def H117_40 (p0 : List I2) (p1 : Int) (o2 : I2) (p3 : Int) (o5 : I2) (r42 : Int) (o88 : I2) (r79 : Int) (o91 : I2) : List Blk := [lb101 (List.set (List.set (List.set (List.set p0 p1.toNat (o2.1, o2.2)) p3.toNat (o5.1, o5.2)) r42.toNat (o88.1, o88.2)) r79.toNat (o91.1, o91.2))]
def H117_41 (p0 : List I2) (p1 : Int) (o2 : I2) (p3 : Int) (o5 : I2) (r79 : Int) (o82 o85 : I2) : List Blk := [lb101 (List.set (List.set (List.set (List.set p0 p1.toNat (o2.1, o2.2)) p3.toNat (o5.1, o5.2)) r79.toNat (o82.1, o82.2)) p1.toNat (o85.1, o85.2))]
def H117_42 (p0 : List I2) (p1 : Int) (o2 : I2) (p3 : Int) (o5 : I2) (r79 : Int) (o82 : I2) : List Blk := [lb101 (List.set (List.set (List.set p0 p1.toNat (o2.1, o2.2)) p3.toNat (o5.1, o5.2)) r79.toNat (o82.1, o82.2))]
def H117_43 (p0 : List I2) (p1 : Int) (o2 : I2) (p3 : Int) (o5 : I2) (r42 : Int) (o88 : I2) : List Blk := [lb101 (List.set (List.set (List.set p0 p1.toNat (o2.1, o2.2)) p3.toNat (o5.1, o5.2)) r42.toNat (o88.1, o88.2))]
def H117_44 (r342 : (List I2) × Int) (o345 : I2) (p1 : Int) (o348 : I2) : List Blk := [lb101 (List.set (List.set r342.1 (Int.toNat r342.2) (o345.1, o345.2)) p1.toNat (o348.1, o348.2))]
def H117_45 (v176 : List I2) (r295 : Int) (o337 : I2) (r332 : Int) (o340 : I2) : List Blk := [lb101 (List.set (List.set v176 r295.toNat (o337.1, o337.2)) r332.toNat (o340.1, o340.2))]
def H117_47 (p0 : List I2) (p1 : Int) (o2 : I2) (p3 : Int) (o5 : I2) : List Blk := [lb101 (List.set (List.set p0 p1.toNat (o2.1, o2.2)) p3.toNat (o5.1, o5.2))]
def H117_48 (r342 : (List I2) × Int) (o345 : I2) : List Blk := [lb101 (List.set r342.1 (Int.toNat r342.2) (o345.1, o345.2))]
def H117_49 (v176 : List I2) (r295 : Int) (o337 : I2) : List Blk := [lb101 (List.set v176 r295.toNat (o337.1, o337.2))]
def H117_50 (p0 : List I2) (p1 : Int) (o2 : I2) : List Blk := [lb101 (List.set p0 p1.toNat (o2.1, o2.2))]
def F117l0 (p0 : List I2) (p1 p2 p3 : Int) (o2 o5 : I2) (v18 : Int) : Option Int :=
 (
  if decide (v18 ≤ (w64 (p2 - 1))) then
   if (0 : Int) ≤ v18 ∧ v18 < (p0.length : Int) then
    some (List.getD (List.set (List.set p0 p1.toNat (o2.1, o2.2)) p3.toNat (o5.1, o5.2)) v18.toNat (0, 0)) >>= fun o33 =>
    if (0 : Int) ≤ p1 ∧ p1 < (p0.length : Int) then
     some (List.getD (List.set (List.set p0 p1.toNat (o2.1, o2.2)) p3.toNat (o5.1, o5.2)) p1.toNat (0, 0)) >>= fun o36 =>
     F87 o33.1 o33.2 o36.1 o36.2 >>= fun r38 =>
     some (decide (r38 < 0))
    else none
   else none
  else
   some (false)
 : Option Bool) >>= fun m40 =>
 if m40 then
  F117l0 p0 p1 p2 p3 o2 o5 (w64 (v18 + 1))
 else
  some v18
 partial_fixpoint
def F117l1 (p0 : List I2) (p1 p3 : Int) (o2 o5 : I2) (r42 v55 : Int) : Option Int :=
 (
  if decide (r42 ≤ v55) then
   if (0 : Int) ≤ v55 ∧ v55 < (p0.length : Int) then
    some (List.getD (List.set (List.set p0 p1.toNat (o2.1, o2.2)) p3.toNat (o5.1, o5.2)) v55.toNat (0, 0)) >>= fun o70 =>
    if (0 : Int) ≤ p1 ∧ p1 < (p0.length : Int) then
     some (List.getD (List.set (List.set p0 p1.toNat (o2.1, o2.2)) p3.toNat (o5.1, o5.2)) p1.toNat (0, 0)) >>= fun o73 =>
     F87 o70.1 o70.2 o73.1 o73.2 >>= fun r75 =>
     some (!(decide (r75 < 0)))
    else none
   else none
  else
   some (false)
 : Option Bool) >>= fun m77 =>
 if m77 then
  F117l1 p0 p1 p3 o2 o5 r42 (w64 (v55 - 1))
 else
  some v55
 partial_fixpoint
def F117l3 (p1 v175 : Int) (v176 : List I2) (v271 : Int) : Option Int :=
 (
  if decide (v271 ≤ v175) then
   if (0 : Int) ≤ v271 ∧ v271 < (v176.length : Int) then
    some (List.getD v176 v271.toNat (0, 0)) >>= fun o286 =>
    if (0 : Int) ≤ p1 ∧ p1 < (v176.length : Int) then
     some (List.getD v176 p1.toNat (0, 0)) >>= fun o289 =>
     F87 o286.1 o286.2 o289.1 o289.2 >>= fun r291 =>
     some (decide (r291 < 0))
    else none
   else none
  else
   some (false)
 : Option Bool) >>= fun m293 =>
 if m293 then
  F117l3 p1 v175 v176 (w64 (v271 + 1))
 else
  some v271
 partial_fixpoint
def F117l4 (p1 r295 : Int) (v176 : List I2) (v308 : Int) : Option Int :=
 (
  if decide (r295 ≤ v308) then
   if (0 : Int) ≤ v308 ∧ v308 < (v176.length : Int) then
    some (List.getD v176 v308.toNat (0, 0)) >>= fun o323 =>
    if (0 : Int) ≤ p1 ∧ p1 < (v176.length : Int) then
     some (List.getD v176 p1.toNat (0, 0)) >>= fun o326 =>
     F87 o323.1 o323.2 o326.1 o326.2 >>= fun r328 =>
     some (!(decide (r328 < 0)))
    else none
   else none
  else
   some (false)
 : Option Bool) >>= fun m330 =>
 if m330 then
  F117l4 p1 r295 v176 (w64 (v308 - 1))
 else
  some v308
 partial_fixpoint
def F117l2 (p1 v174 v175 : Int) (v176 : List I2) : Option ((List I2) × Int) :=
 F117l3 p1 v175 v176 v174 >>= fun r295 =>
 F117l4 p1 r295 v176 v175 >>= fun r332 =>
 if decide (r295 > r332) then
  some (v176, r332)
 else
  if (0 : Int) ≤ r332 ∧ r332 < (v176.length : Int) then
   some (List.getD v176 r332.toNat (0, 0)) >>= fun o337 =>
   if (0 : Int) ≤ r295 ∧ r295 < (v176.length : Int) then
    some (List.getD v176 r295.toNat (0, 0)) >>= fun o340 =>
    F117l2 p1 (w64 (r295 + 1)) (w64 (r332 - 1)) (List.set (List.set v176 r295.toNat (o337.1, o337.2)) r332.toNat (o340.1, o340.2))
   else none
  else none
 partial_fixpoint
def F117 (p0 : List I2) (p1 p2 p3 : Int) : Option (Int × Bool × (List I2)) :=
 if (0 : Int) ≤ p3 ∧ p3 < (p0.length : Int) then
  some (List.getD p0 p3.toNat (0, 0)) >>= fun o2 =>
  if (0 : Int) ≤ p1 ∧ p1 < (p0.length : Int) then
   some (List.getD p0 p1.toNat (0, 0)) >>= fun o5 =>
   F117l0 p0 p1 p2 p3 o2 o5 (w64 (p1 + 1)) >>= fun r42 =>
   F117l1 p0 p1 p3 o2 o5 r42 (w64 (p2 - 1)) >>= fun r79 =>
   if decide (r42 > r79) then
    some (List.getD (List.set (List.set p0 p1.toNat (o2.1, o2.2)) p3.toNat (o5.1, o5.2)) p1.toNat (0, 0)) >>= fun o82 =>
    if (0 : Int) ≤ r79 ∧ r79 < (p0.length : Int) then
     some (List.getD (List.set (List.set p0 p1.toNat (o2.1, o2.2)) p3.toNat (o5.1, o5.2)) r79.toNat (0, 0)) >>= fun o85 =>
     some (r79, true, List.set (List.set (List.set (List.set p0 p1.toNat (o2.1, o2.2)) p3.toNat (o5.1, o5.2)) r79.toNat (o82.1, o82.2)) p1.toNat (o85.1, o85.2))
    else none
   else
    if (0 : Int) ≤ r79 ∧ r79 < (p0.length : Int) then
     some (List.getD (List.set (List.set p0 p1.toNat (o2.1, o2.2)) p3.toNat (o5.1, o5.2)) r79.toNat (0, 0)) >>= fun o88 =>
     if (0 : Int) ≤ r42 ∧ r42 < (p0.length : Int) then
      some (List.getD (List.set (List.set p0 p1.toNat (o2.1, o2.2)) p3.toNat (o5.1, o5.2)) r42.toNat (0, 0)) >>= fun o91 =>
      F117l2 p1 (w64 (r42 + 1)) (w64 (r79 - 1)) (List.set (List.set (List.set (List.set p0 p1.toNat (o2.1, o2.2)) p3.toNat (o5.1, o5.2)) r42.toNat (o88.1, o88.2)) r79.toNat (o91.1, o91.2)) >>= fun r342 =>
      if (0 : Int) ≤ p1 ∧ p1 < (r342.1.length : Int) then
       some (List.getD r342.1 p1.toNat (0, 0)) >>= fun o345 =>
       if (0 : Int) ≤ r342.2 ∧ r342.2 < (r342.1.length : Int) then
        some (List.getD r342.1 (Int.toNat r342.2) (0, 0)) >>= fun o348 =>
        some (r342.2, false, List.set (List.set r342.1 (Int.toNat r342.2) (o345.1, o345.2)) p1.toNat (o348.1, o348.2))
       else none
      else none
     else none
    else none
  else none
 else none
def P117l0 (p0 : List I2) (p1 p2 p3 : Int) (o2 o5 : I2) (r : Int) : Post := fun e a h => e = .exit 0 ∧ Wk Pg 0 1 a h (st 178 [(0, anyV 0 p0.length), (1, iv p1), (4, fn 87), (12, iv r), (13, iv (w64 (p2 - 1)))]) (H117_47 p0 p1 o2 p3 o5)
theorem L117l0 (p0 : List I2) (p1 p2 p3 : Int) (o2 o5 : I2) (v18 r : Int) (hF : F117l0 p0 p1 p2 p3 o2 o5 v18 = some r) : TL Pg 0 1 c117.s2.s2.s2.s1.bd.bd (st 178 [(0, anyV 0 p0.length), (1, iv p1), (4, fn 87), (12, iv v18), (13, iv (w64 (p2 - 1)))]) (H117_47 p0 p1 o2 p3 o5) (P117l0 p0 p1 p2 p3 o2 o5 r) := by
 refine F117l0.partial_correctness p0 p1 p2 p3 o2 o5 (motive := fun v18 r => TL Pg 0 1 c117.s2.s2.s2.s1.bd.bd (st 178 [(0, anyV 0 p0.length), (1, iv p1), (4, fn 87), (12, iv v18), (13, iv (w64 (p2 - 1)))]) (H117_47 p0 p1 o2 p3 o5) (P117l0 p0 p1 p2 p3 o2 o5 r)) ?_ v18 r hF
 clear hF r v18
 intro again ih v18 r hF
 refine TL.round (TS.sq (TS.sq ?_))
 obtain ⟨m40, hm41, hF⟩ := of_do hF
 have hK : NX Pg 0 1 [.sq c117.s2.s2.s2.s1.bd.bd.s1.s2, .sq c117.s2.s2.s2.s1.bd.bd.s2] (Rd Pg 0 1 c117.s2.s2.s2.s1.bd.bd (P117l0 p0 p1 p2 p3 o2 o5 r)) .normal (st 178 [(0, anyV 0 p0.length), (1, iv p1), (4, fn 87), (12, iv v18), (13, iv (w64 (p2 - 1))), (47, .bool m40)]) (H117_47 p0 p1 o2 p3 o5) := by
  refine NX.sq ?_
  cases m40 with
  | true =>
   replace hF := of_pos hF rfl
   refine TS.cdT (.tmp 47) (TS.sk (NX.sq (TS.bk 1 (TS.rg (TI.ra 3 [0, 1, 4, 12, 13] (st 178 [(0, anyV 0 p0.length), (1, iv p1), (4, fn 87), (12, iv (w64 (v18 + 1))), (13, iv (w64 (p2 - 1)))]) (TI.dn (NX.bk ?_)))))))
   exact Rd.again (a2 := (st 178 [(0, anyV 0 p0.length), (1, iv p1), (4, fn 87), (12, iv (w64 (v18 + 1))), (13, iv (w64 (p2 - 1)))])) (h2 := (H117_47 p0 p1 o2 p3 o5)) (Wk.an [] Ats.l [anyV 0 p0.length, iv p1, fn 87, iv (w64 (v18 + 1)), iv (w64 (p2 - 1))] (.cons rav (.fl (.cons (Rn.func' .nil .nil) (.fl (.fl .nil)))))) (ih (w64 (v18 + 1)) _ hF)
  | false =>
   replace hF := of_neg hF rfl
   refine TS.cdF (.tmp 47) (TS.ex 0 (NX.sqX ?_))
   have hF := sj hF
   subst hF
   exact Rd.out (e := .exit 0) (by intro h; cases h) (And.intro rfl (Wk.an [] Ats.l [anyV 0 p0.length, iv p1, fn 87, iv v18, iv (w64 (p2 - 1))] (.cons rav (.fl (.cons (Rn.func' .nil .nil) (.fl (.fl .nil)))))))
 rcases Bool.eq_false_or_eq_true (decide (v18 ≤ (w64 (p2 - 1)))) with hc31 | hc31
 · replace hm41 := of_pos hm41 hc31
   obtain ⟨hg32, hm41⟩ := of_guard hm41
   obtain ⟨o33, h34, hm41⟩ := of_do hm41
   replace h34 := sj h34
   obtain ⟨hg35, hm41⟩ := of_guard hm41
   obtain ⟨o36, h37, hm41⟩ := of_do hm41
   replace h37 := sj h37
   obtain ⟨r38, h39, hm41⟩ := of_do hm41
   have hm41 := sj hm41
   subst hm41
   have hT : ∀ e ∈ ([⟨87, [ag [iv o33.1, iv o33.2], ag [iv o36.1, iv o36.2]], (H117_47 p0 p1 o2 p3 o5), iv r38, []⟩] : List Entry), PureSim Pg e.g e.args e.h e.v e.new := by
    intro e he
    simp only [List.mem_cons, List.not_mem_nil, or_false] at he
    rcases he with rfl
    exact PureSim.ak (C87 _ _ _ _ _ h39)
   refine TS.dp [⟨87, [ag [iv o33.1, iv o33.2], ag [iv o36.1, iv o36.2]], (H117_47 p0 p1 o2 p3 o5), iv r38, []⟩] hT mixed 13 [0, 1, 4, 12, 13, 47] [0] (st 178 [(0, anyV 0 p0.length), (1, iv p1), (4, fn 87), (12, iv v18), (13, iv (w64 (p2 - 1))), (47, .bool (decide (r38 < 0)))]) (H117_47 p0 p1 o2 p3 o5) ?_ ?_
   · refine QJ.rn (qs (st 178 [(0, anyV 0 p0.length), (1, iv p1), (4, fn 87), (12, iv v18), (13, iv (w64 (p2 - 1))), (32, iv v18), (33, iv (w64 (p2 - 1)))]) (H117_47 p0 p1 o2 p3 o5) [] []) 2 (QJ.o { val := .bool true } (q_conv (e := decide (v18 ≤ (w64 (p2 - 1)))) (b := true) (by kernel_rfl) hc31) (QJ.rn (qs (st 178 [(0, anyV 0 p0.length), (1, iv p1), (4, fn 87), (12, iv v18), (13, iv (w64 (p2 - 1))), (32, iv v18), (33, iv (w64 (p2 - 1))), (34, .bool true), (35, .bool true), (36, fn 87), (37, anyV 0 p0.length), (38, iv v18)]) (H117_47 p0 p1 o2 p3 o5) [] []) 4 (QJ.o { val := pt 0 (0 + v18.toNat * 2) } (q_ixS 0 0 (v18.toNat * 2) (by kernel_rfl) hg32) (QJ.o { val := ag [iv o33.1, iv o33.2] } (q_nA Pg (H117_47 p0 p1 o2 p3 o5) 101 0 (0 + v18.toNat * 2) (List.set (List.set p0 p1.toNat (o2.1, o2.2)) p3.toNat (o5.1, o5.2)) e101 2 101 v18.toNat (0, 0) h34) (QJ.rn (qs (st 178 [(0, anyV 0 p0.length), (1, iv p1), (4, fn 87), (12, iv v18), (13, iv (w64 (p2 - 1))), (32, iv v18), (33, iv (w64 (p2 - 1))), (34, .bool true), (35, .bool true), (36, fn 87), (37, anyV 0 p0.length), (38, iv v18), (39, pt 0 (0 + v18.toNat * 2)), (40, ag [iv o33.1, iv o33.2]), (41, anyV 0 p0.length), (42, iv p1)]) (H117_47 p0 p1 o2 p3 o5) [] []) 2 (QJ.o { val := pt 0 (0 + p1.toNat * 2) } (q_ixS 0 0 (p1.toNat * 2) (by kernel_rfl) hg35) (QJ.o { val := ag [iv o36.1, iv o36.2] } (q_nA Pg (H117_47 p0 p1 o2 p3 o5) 101 0 (0 + p1.toNat * 2) (List.set (List.set p0 p1.toNat (o2.1, o2.2)) p3.toNat (o5.1, o5.2)) e101 2 101 p1.toNat (0, 0) h37) (QJ.dn ⟨rfl, ?_⟩))))))))
     exact SJ.o { val := iv r38, new := [] } (qOf_call (g := 87) (args := [ag [iv o33.1, iv o33.2], ag [iv o36.1, iv o36.2]]) (by kernel_rfl) lookC_hit) SJ.la
   exact hK
 replace hm41 := of_neg hm41 hc31
 have hm41 := sj hm41
 subst hm41
 refine TS.dp [] (fun e he => by cases he) mixed 13 [0, 1, 4, 12, 13, 47] [0] (st 178 [(0, anyV 0 p0.length), (1, iv p1), (4, fn 87), (12, iv v18), (13, iv (w64 (p2 - 1))), (47, .bool false)]) (H117_47 p0 p1 o2 p3 o5) ?_ ?_
 · exact QJ.rn (qs (st 178 [(0, anyV 0 p0.length), (1, iv p1), (4, fn 87), (12, iv v18), (13, iv (w64 (p2 - 1))), (32, iv v18), (33, iv (w64 (p2 - 1)))]) (H117_47 p0 p1 o2 p3 o5) [] []) 2 (QJ.o { val := .bool false } (q_conv (e := decide (v18 ≤ (w64 (p2 - 1)))) (b := false) (by kernel_rfl) hc31) (QJ.rn (qs (st 178 [(0, anyV 0 p0.length), (1, iv p1), (4, fn 87), (12, iv v18), (13, iv (w64 (p2 - 1))), (32, iv v18), (33, iv (w64 (p2 - 1))), (34, .bool false), (35, .bool false), (36, undef), (37, undef), (38, undef), (39, undef), (40, undef), (41, undef), (42, undef), (43, undef), (44, undef)]) (H117_47 p0 p1 o2 p3 o5) [] []) 10 (QJ.dn ⟨rfl, SJ.la⟩)))
 exact hK
def P117l1 (p0 : List I2) (p1 p3 : Int) (o2 o5 : I2) (r42 r : Int) : Post := fun e a h => e = .exit 2 ∧ Wk Pg 0 1 a h (st 178 [(0, anyV 0 p0.length), (1, iv p1), (4, fn 87), (12, iv r42), (13, iv r)]) (H117_47 p0 p1 o2 p3 o5)
theorem L117l1 (p0 : List I2) (p1 p3 : Int) (o2 o5 : I2) (r42 v55 r : Int) (hF : F117l1 p0 p1 p3 o2 o5 r42 v55 = some r) : TL Pg 0 1 c117.s2.s2.s2.s2.s1.bd.bd (st 178 [(0, anyV 0 p0.length), (1, iv p1), (4, fn 87), (12, iv r42), (13, iv v55)]) (H117_47 p0 p1 o2 p3 o5) (P117l1 p0 p1 p3 o2 o5 r42 r) := by
 refine F117l1.partial_correctness p0 p1 p3 o2 o5 r42 (motive := fun v55 r => TL Pg 0 1 c117.s2.s2.s2.s2.s1.bd.bd (st 178 [(0, anyV 0 p0.length), (1, iv p1), (4, fn 87), (12, iv r42), (13, iv v55)]) (H117_47 p0 p1 o2 p3 o5) (P117l1 p0 p1 p3 o2 o5 r42 r)) ?_ v55 r hF
 clear hF r v55
 intro again ih v55 r hF
 refine TL.round (TS.sq (TS.sq ?_))
 obtain ⟨m77, hm78, hF⟩ := of_do hF
 have hK : NX Pg 0 1 [.sq c117.s2.s2.s2.s2.s1.bd.bd.s1.s2, .sq c117.s2.s2.s2.s2.s1.bd.bd.s2] (Rd Pg 0 1 c117.s2.s2.s2.s2.s1.bd.bd (P117l1 p0 p1 p3 o2 o5 r42 r)) .normal (st 178 [(0, anyV 0 p0.length), (1, iv p1), (4, fn 87), (12, iv r42), (13, iv v55), (66, .bool m77)]) (H117_47 p0 p1 o2 p3 o5) := by
  refine NX.sq ?_
  cases m77 with
  | true =>
   replace hF := of_pos hF rfl
   refine TS.cdT (.tmp 66) (TS.sk (NX.sq (TS.bk 3 (TS.rg (TI.ra 3 [0, 1, 4, 12, 13] (st 178 [(0, anyV 0 p0.length), (1, iv p1), (4, fn 87), (12, iv r42), (13, iv (w64 (v55 - 1)))]) (TI.dn (NX.bk ?_)))))))
   exact Rd.again (a2 := (st 178 [(0, anyV 0 p0.length), (1, iv p1), (4, fn 87), (12, iv r42), (13, iv (w64 (v55 - 1)))])) (h2 := (H117_47 p0 p1 o2 p3 o5)) (Wk.an [] Ats.l [anyV 0 p0.length, iv p1, fn 87, iv r42, iv (w64 (v55 - 1))] (.cons rav (.fl (.cons (Rn.func' .nil .nil) (.fl (.fl .nil)))))) (ih (w64 (v55 - 1)) _ hF)
  | false =>
   replace hF := of_neg hF rfl
   refine TS.cdF (.tmp 66) (TS.ex 2 (NX.sqX ?_))
   have hF := sj hF
   subst hF
   exact Rd.out (e := .exit 2) (by intro h; cases h) (And.intro rfl (Wk.an [] Ats.l [anyV 0 p0.length, iv p1, fn 87, iv r42, iv v55] (.cons rav (.fl (.cons (Rn.func' .nil .nil) (.fl (.fl .nil)))))))
 rcases Bool.eq_false_or_eq_true (decide (r42 ≤ v55)) with hc68 | hc68
 · replace hm78 := of_pos hm78 hc68
   obtain ⟨hg69, hm78⟩ := of_guard hm78
   obtain ⟨o70, h71, hm78⟩ := of_do hm78
   replace h71 := sj h71
   obtain ⟨hg72, hm78⟩ := of_guard hm78
   obtain ⟨o73, h74, hm78⟩ := of_do hm78
   replace h74 := sj h74
   obtain ⟨r75, h76, hm78⟩ := of_do hm78
   have hm78 := sj hm78
   subst hm78
   have hT : ∀ e ∈ ([⟨87, [ag [iv o70.1, iv o70.2], ag [iv o73.1, iv o73.2]], (H117_47 p0 p1 o2 p3 o5), iv r75, []⟩] : List Entry), PureSim Pg e.g e.args e.h e.v e.new := by
    intro e he
    simp only [List.mem_cons, List.not_mem_nil, or_false] at he
    rcases he with rfl
    exact PureSim.ak (C87 _ _ _ _ _ h76)
   refine TS.dp [⟨87, [ag [iv o70.1, iv o70.2], ag [iv o73.1, iv o73.2]], (H117_47 p0 p1 o2 p3 o5), iv r75, []⟩] hT mixed 13 [0, 1, 4, 12, 13, 66] [0] (st 178 [(0, anyV 0 p0.length), (1, iv p1), (4, fn 87), (12, iv r42), (13, iv v55), (66, .bool (!(decide (r75 < 0))))]) (H117_47 p0 p1 o2 p3 o5) ?_ ?_
   · refine QJ.rn (qs (st 178 [(0, anyV 0 p0.length), (1, iv p1), (4, fn 87), (12, iv r42), (13, iv v55), (50, iv r42), (51, iv v55)]) (H117_47 p0 p1 o2 p3 o5) [] []) 2 (QJ.o { val := .bool true } (q_conv (e := decide (r42 ≤ v55)) (b := true) (by kernel_rfl) hc68) (QJ.rn (qs (st 178 [(0, anyV 0 p0.length), (1, iv p1), (4, fn 87), (12, iv r42), (13, iv v55), (50, iv r42), (51, iv v55), (52, .bool true), (53, .bool true), (54, fn 87), (55, anyV 0 p0.length), (56, iv v55)]) (H117_47 p0 p1 o2 p3 o5) [] []) 4 (QJ.o { val := pt 0 (0 + v55.toNat * 2) } (q_ixS 0 0 (v55.toNat * 2) (by kernel_rfl) hg69) (QJ.o { val := ag [iv o70.1, iv o70.2] } (q_nA Pg (H117_47 p0 p1 o2 p3 o5) 101 0 (0 + v55.toNat * 2) (List.set (List.set p0 p1.toNat (o2.1, o2.2)) p3.toNat (o5.1, o5.2)) e101 2 101 v55.toNat (0, 0) h71) (QJ.rn (qs (st 178 [(0, anyV 0 p0.length), (1, iv p1), (4, fn 87), (12, iv r42), (13, iv v55), (50, iv r42), (51, iv v55), (52, .bool true), (53, .bool true), (54, fn 87), (55, anyV 0 p0.length), (56, iv v55), (57, pt 0 (0 + v55.toNat * 2)), (58, ag [iv o70.1, iv o70.2]), (59, anyV 0 p0.length), (60, iv p1)]) (H117_47 p0 p1 o2 p3 o5) [] []) 2 (QJ.o { val := pt 0 (0 + p1.toNat * 2) } (q_ixS 0 0 (p1.toNat * 2) (by kernel_rfl) hg72) (QJ.o { val := ag [iv o73.1, iv o73.2] } (q_nA Pg (H117_47 p0 p1 o2 p3 o5) 101 0 (0 + p1.toNat * 2) (List.set (List.set p0 p1.toNat (o2.1, o2.2)) p3.toNat (o5.1, o5.2)) e101 2 101 p1.toNat (0, 0) h74) (QJ.dn ⟨rfl, ?_⟩))))))))
     exact SJ.o { val := iv r75, new := [] } (qOf_call (g := 87) (args := [ag [iv o70.1, iv o70.2], ag [iv o73.1, iv o73.2]]) (by kernel_rfl) lookC_hit) SJ.la
   exact hK
 replace hm78 := of_neg hm78 hc68
 have hm78 := sj hm78
 subst hm78
 refine TS.dp [] (fun e he => by cases he) mixed 13 [0, 1, 4, 12, 13, 66] [0] (st 178 [(0, anyV 0 p0.length), (1, iv p1), (4, fn 87), (12, iv r42), (13, iv v55), (66, .bool false)]) (H117_47 p0 p1 o2 p3 o5) ?_ ?_
 · exact QJ.rn (qs (st 178 [(0, anyV 0 p0.length), (1, iv p1), (4, fn 87), (12, iv r42), (13, iv v55), (50, iv r42), (51, iv v55)]) (H117_47 p0 p1 o2 p3 o5) [] []) 2 (QJ.o { val := .bool false } (q_conv (e := decide (r42 ≤ v55)) (b := false) (by kernel_rfl) hc68) (QJ.rn (qs (st 178 [(0, anyV 0 p0.length), (1, iv p1), (4, fn 87), (12, iv r42), (13, iv v55), (50, iv r42), (51, iv v55), (52, .bool false), (53, .bool false), (54, undef), (55, undef), (56, undef), (57, undef), (58, undef), (59, undef), (60, undef), (61, undef), (62, undef)]) (H117_47 p0 p1 o2 p3 o5) [] []) 10 (QJ.dn ⟨rfl, SJ.la⟩)))
 exact hK
def P117l3 (p1 v175 : Int) (v176 : List I2) (r : Int) : Post := fun e a h => e = .exit 6 ∧ Wk Pg 0 1 a h (st 178 [(0, anyV 0 v176.length), (1, iv p1), (4, fn 87), (12, iv r), (13, iv v175)]) [lb101 v176]
theorem L117l3 (p1 v175 : Int) (v176 : List I2) (v271 r : Int) (hF : F117l3 p1 v175 v176 v271 = some r) : TL Pg 0 1 c117.s2.s2.s2.s2.s2.s2.s2.s2.s2.s1.bd.bd.bd.s1.bd.bd (st 178 [(0, anyV 0 v176.length), (1, iv p1), (4, fn 87), (12, iv v271), (13, iv v175)]) [lb101 v176] (P117l3 p1 v175 v176 r) := by
 refine F117l3.partial_correctness p1 v175 v176 (motive := fun v271 r => TL Pg 0 1 c117.s2.s2.s2.s2.s2.s2.s2.s2.s2.s1.bd.bd.bd.s1.bd.bd (st 178 [(0, anyV 0 v176.length), (1, iv p1), (4, fn 87), (12, iv v271), (13, iv v175)]) [lb101 v176] (P117l3 p1 v175 v176 r)) ?_ v271 r hF
 clear hF r v271
 intro again ih v271 r hF
 refine TL.round (TS.sq (TS.sq ?_))
 obtain ⟨m293, hm294, hF⟩ := of_do hF
 have hK : NX Pg 0 1 [.sq c117.s2.s2.s2.s2.s2.s2.s2.s2.s2.s1.bd.bd.bd.s1.bd.bd.s1.s2, .sq c117.s2.s2.s2.s2.s2.s2.s2.s2.s2.s1.bd.bd.bd.s1.bd.bd.s2] (Rd Pg 0 1 c117.s2.s2.s2.s2.s2.s2.s2.s2.s2.s1.bd.bd.bd.s1.bd.bd (P117l3 p1 v175 v176 r)) .normal (st 178 [(0, anyV 0 v176.length), (1, iv p1), (4, fn 87), (12, iv v271), (13, iv v175), (120, .bool m293)]) [lb101 v176] := by
  refine NX.sq ?_
  cases m293 with
  | true =>
   replace hF := of_pos hF rfl
   refine TS.cdT (.tmp 120) (TS.sk (NX.sq (TS.bk 7 (TS.rg (TI.ra 3 [0, 1, 4, 12, 13] (st 178 [(0, anyV 0 v176.length), (1, iv p1), (4, fn 87), (12, iv (w64 (v271 + 1))), (13, iv v175)]) (TI.dn (NX.bk ?_)))))))
   exact Rd.again (a2 := (st 178 [(0, anyV 0 v176.length), (1, iv p1), (4, fn 87), (12, iv (w64 (v271 + 1))), (13, iv v175)])) (h2 := [lb101 v176]) (Wk.an [] Ats.l [anyV 0 v176.length, iv p1, fn 87, iv (w64 (v271 + 1)), iv v175] (.cons rav (.fl (.cons (Rn.func' .nil .nil) (.fl (.fl .nil)))))) (ih (w64 (v271 + 1)) _ hF)
  | false =>
   replace hF := of_neg hF rfl
   refine TS.cdF (.tmp 120) (TS.ex 6 (NX.sqX ?_))
   have hF := sj hF
   subst hF
   exact Rd.out (e := .exit 6) (by intro h; cases h) (And.intro rfl (Wk.an [] Ats.l [anyV 0 v176.length, iv p1, fn 87, iv v271, iv v175] (.cons rav (.fl (.cons (Rn.func' .nil .nil) (.fl (.fl .nil)))))))
 rcases Bool.eq_false_or_eq_true (decide (v271 ≤ v175)) with hc284 | hc284
 · replace hm294 := of_pos hm294 hc284
   obtain ⟨hg285, hm294⟩ := of_guard hm294
   obtain ⟨o286, h287, hm294⟩ := of_do hm294
   replace h287 := sj h287
   obtain ⟨hg288, hm294⟩ := of_guard hm294
   obtain ⟨o289, h290, hm294⟩ := of_do hm294
   replace h290 := sj h290
   obtain ⟨r291, h292, hm294⟩ := of_do hm294
   have hm294 := sj hm294
   subst hm294
   have hT : ∀ e ∈ ([⟨87, [ag [iv o286.1, iv o286.2], ag [iv o289.1, iv o289.2]], [lb101 v176], iv r291, []⟩] : List Entry), PureSim Pg e.g e.args e.h e.v e.new := by
    intro e he
    simp only [List.mem_cons, List.not_mem_nil, or_false] at he
    rcases he with rfl
    exact PureSim.ak (C87 _ _ _ _ _ h292)
   refine TS.dp [⟨87, [ag [iv o286.1, iv o286.2], ag [iv o289.1, iv o289.2]], [lb101 v176], iv r291, []⟩] hT mixed 13 [0, 1, 4, 12, 13, 120] [0] (st 178 [(0, anyV 0 v176.length), (1, iv p1), (4, fn 87), (12, iv v271), (13, iv v175), (120, .bool (decide (r291 < 0)))]) [lb101 v176] ?_ ?_
   · refine QJ.rn (qs (st 178 [(0, anyV 0 v176.length), (1, iv p1), (4, fn 87), (12, iv v271), (13, iv v175), (105, iv v271), (106, iv v175)]) [lb101 v176] [] []) 2 (QJ.o { val := .bool true } (q_conv (e := decide (v271 ≤ v175)) (b := true) (by kernel_rfl) hc284) (QJ.rn (qs (st 178 [(0, anyV 0 v176.length), (1, iv p1), (4, fn 87), (12, iv v271), (13, iv v175), (105, iv v271), (106, iv v175), (107, .bool true), (108, .bool true), (109, fn 87), (110, anyV 0 v176.length), (111, iv v271)]) [lb101 v176] [] []) 4 (QJ.o { val := pt 0 (0 + v271.toNat * 2) } (q_ixS 0 0 (v271.toNat * 2) (by kernel_rfl) hg285) (QJ.o { val := ag [iv o286.1, iv o286.2] } (q_nA Pg [lb101 v176] 101 0 (0 + v271.toNat * 2) v176 e101 2 101 v271.toNat (0, 0) h287) (QJ.rn (qs (st 178 [(0, anyV 0 v176.length), (1, iv p1), (4, fn 87), (12, iv v271), (13, iv v175), (105, iv v271), (106, iv v175), (107, .bool true), (108, .bool true), (109, fn 87), (110, anyV 0 v176.length), (111, iv v271), (112, pt 0 (0 + v271.toNat * 2)), (113, ag [iv o286.1, iv o286.2]), (114, anyV 0 v176.length), (115, iv p1)]) [lb101 v176] [] []) 2 (QJ.o { val := pt 0 (0 + p1.toNat * 2) } (q_ixS 0 0 (p1.toNat * 2) (by kernel_rfl) hg288) (QJ.o { val := ag [iv o289.1, iv o289.2] } (q_nA Pg [lb101 v176] 101 0 (0 + p1.toNat * 2) v176 e101 2 101 p1.toNat (0, 0) h290) (QJ.dn ⟨rfl, ?_⟩))))))))
     exact SJ.o { val := iv r291, new := [] } (qOf_call (g := 87) (args := [ag [iv o286.1, iv o286.2], ag [iv o289.1, iv o289.2]]) (by kernel_rfl) lookC_hit) SJ.la
   exact hK
 replace hm294 := of_neg hm294 hc284
 have hm294 := sj hm294
 subst hm294
 refine TS.dp [] (fun e he => by cases he) mixed 13 [0, 1, 4, 12, 13, 120] [0] (st 178 [(0, anyV 0 v176.length), (1, iv p1), (4, fn 87), (12, iv v271), (13, iv v175), (120, .bool false)]) [lb101 v176] ?_ ?_
 · exact QJ.rn (qs (st 178 [(0, anyV 0 v176.length), (1, iv p1), (4, fn 87), (12, iv v271), (13, iv v175), (105, iv v271), (106, iv v175)]) [lb101 v176] [] []) 2 (QJ.o { val := .bool false } (q_conv (e := decide (v271 ≤ v175)) (b := false) (by kernel_rfl) hc284) (QJ.rn (qs (st 178 [(0, anyV 0 v176.length), (1, iv p1), (4, fn 87), (12, iv v271), (13, iv v175), (105, iv v271), (106, iv v175), (107, .bool false), (108, .bool false), (109, undef), (110, undef), (111, undef), (112, undef), (113, undef), (114, undef), (115, undef), (116, undef), (117, undef)]) [lb101 v176] [] []) 10 (QJ.dn ⟨rfl, SJ.la⟩)))
 exact hK
def P117l4 (p1 r295 : Int) (v176 : List I2) (r : Int) : Post := fun e a h => e = .exit 8 ∧ Wk Pg 0 1 a h (st 178 [(0, anyV 0 v176.length), (1, iv p1), (4, fn 87), (12, iv r295), (13, iv r)]) [lb101 v176]
theorem L117l4 (p1 r295 : Int) (v176 : List I2) (v308 r : Int) (hF : F117l4 p1 r295 v176 v308 = some r) : TL Pg 0 1 c117.s2.s2.s2.s2.s2.s2.s2.s2.s2.s1.bd.bd.bd.s2.s1.bd.bd (st 178 [(0, anyV 0 v176.length), (1, iv p1), (4, fn 87), (12, iv r295), (13, iv v308)]) [lb101 v176] (P117l4 p1 r295 v176 r) := by
 refine F117l4.partial_correctness p1 r295 v176 (motive := fun v308 r => TL Pg 0 1 c117.s2.s2.s2.s2.s2.s2.s2.s2.s2.s1.bd.bd.bd.s2.s1.bd.bd (st 178 [(0, anyV 0 v176.length), (1, iv p1), (4, fn 87), (12, iv r295), (13, iv v308)]) [lb101 v176] (P117l4 p1 r295 v176 r)) ?_ v308 r hF
 clear hF r v308
 intro again ih v308 r hF
 refine TL.round (TS.sq (TS.sq ?_))
 obtain ⟨m330, hm331, hF⟩ := of_do hF
 have hK : NX Pg 0 1 [.sq c117.s2.s2.s2.s2.s2.s2.s2.s2.s2.s1.bd.bd.bd.s2.s1.bd.bd.s1.s2, .sq c117.s2.s2.s2.s2.s2.s2.s2.s2.s2.s1.bd.bd.bd.s2.s1.bd.bd.s2] (Rd Pg 0 1 c117.s2.s2.s2.s2.s2.s2.s2.s2.s2.s1.bd.bd.bd.s2.s1.bd.bd (P117l4 p1 r295 v176 r)) .normal (st 178 [(0, anyV 0 v176.length), (1, iv p1), (4, fn 87), (12, iv r295), (13, iv v308), (139, .bool m330)]) [lb101 v176] := by
  refine NX.sq ?_
  cases m330 with
  | true =>
   replace hF := of_pos hF rfl
   refine TS.cdT (.tmp 139) (TS.sk (NX.sq (TS.bk 9 (TS.rg (TI.ra 3 [0, 1, 4, 12, 13] (st 178 [(0, anyV 0 v176.length), (1, iv p1), (4, fn 87), (12, iv r295), (13, iv (w64 (v308 - 1)))]) (TI.dn (NX.bk ?_)))))))
   exact Rd.again (a2 := (st 178 [(0, anyV 0 v176.length), (1, iv p1), (4, fn 87), (12, iv r295), (13, iv (w64 (v308 - 1)))])) (h2 := [lb101 v176]) (Wk.an [] Ats.l [anyV 0 v176.length, iv p1, fn 87, iv r295, iv (w64 (v308 - 1))] (.cons rav (.fl (.cons (Rn.func' .nil .nil) (.fl (.fl .nil)))))) (ih (w64 (v308 - 1)) _ hF)
  | false =>
   replace hF := of_neg hF rfl
   refine TS.cdF (.tmp 139) (TS.ex 8 (NX.sqX ?_))
   have hF := sj hF
   subst hF
   exact Rd.out (e := .exit 8) (by intro h; cases h) (And.intro rfl (Wk.an [] Ats.l [anyV 0 v176.length, iv p1, fn 87, iv r295, iv v308] (.cons rav (.fl (.cons (Rn.func' .nil .nil) (.fl (.fl .nil)))))))
 rcases Bool.eq_false_or_eq_true (decide (r295 ≤ v308)) with hc321 | hc321
 · replace hm331 := of_pos hm331 hc321
   obtain ⟨hg322, hm331⟩ := of_guard hm331
   obtain ⟨o323, h324, hm331⟩ := of_do hm331
   replace h324 := sj h324
   obtain ⟨hg325, hm331⟩ := of_guard hm331
   obtain ⟨o326, h327, hm331⟩ := of_do hm331
   replace h327 := sj h327
   obtain ⟨r328, h329, hm331⟩ := of_do hm331
   have hm331 := sj hm331
   subst hm331
   have hT : ∀ e ∈ ([⟨87, [ag [iv o323.1, iv o323.2], ag [iv o326.1, iv o326.2]], [lb101 v176], iv r328, []⟩] : List Entry), PureSim Pg e.g e.args e.h e.v e.new := by
    intro e he
    simp only [List.mem_cons, List.not_mem_nil, or_false] at he
    rcases he with rfl
    exact PureSim.ak (C87 _ _ _ _ _ h329)
   refine TS.dp [⟨87, [ag [iv o323.1, iv o323.2], ag [iv o326.1, iv o326.2]], [lb101 v176], iv r328, []⟩] hT mixed 13 [0, 1, 4, 12, 13, 139] [0] (st 178 [(0, anyV 0 v176.length), (1, iv p1), (4, fn 87), (12, iv r295), (13, iv v308), (139, .bool (!(decide (r328 < 0))))]) [lb101 v176] ?_ ?_
   · refine QJ.rn (qs (st 178 [(0, anyV 0 v176.length), (1, iv p1), (4, fn 87), (12, iv r295), (13, iv v308), (123, iv r295), (124, iv v308)]) [lb101 v176] [] []) 2 (QJ.o { val := .bool true } (q_conv (e := decide (r295 ≤ v308)) (b := true) (by kernel_rfl) hc321) (QJ.rn (qs (st 178 [(0, anyV 0 v176.length), (1, iv p1), (4, fn 87), (12, iv r295), (13, iv v308), (123, iv r295), (124, iv v308), (125, .bool true), (126, .bool true), (127, fn 87), (128, anyV 0 v176.length), (129, iv v308)]) [lb101 v176] [] []) 4 (QJ.o { val := pt 0 (0 + v308.toNat * 2) } (q_ixS 0 0 (v308.toNat * 2) (by kernel_rfl) hg322) (QJ.o { val := ag [iv o323.1, iv o323.2] } (q_nA Pg [lb101 v176] 101 0 (0 + v308.toNat * 2) v176 e101 2 101 v308.toNat (0, 0) h324) (QJ.rn (qs (st 178 [(0, anyV 0 v176.length), (1, iv p1), (4, fn 87), (12, iv r295), (13, iv v308), (123, iv r295), (124, iv v308), (125, .bool true), (126, .bool true), (127, fn 87), (128, anyV 0 v176.length), (129, iv v308), (130, pt 0 (0 + v308.toNat * 2)), (131, ag [iv o323.1, iv o323.2]), (132, anyV 0 v176.length), (133, iv p1)]) [lb101 v176] [] []) 2 (QJ.o { val := pt 0 (0 + p1.toNat * 2) } (q_ixS 0 0 (p1.toNat * 2) (by kernel_rfl) hg325) (QJ.o { val := ag [iv o326.1, iv o326.2] } (q_nA Pg [lb101 v176] 101 0 (0 + p1.toNat * 2) v176 e101 2 101 p1.toNat (0, 0) h327) (QJ.dn ⟨rfl, ?_⟩))))))))
     exact SJ.o { val := iv r328, new := [] } (qOf_call (g := 87) (args := [ag [iv o323.1, iv o323.2], ag [iv o326.1, iv o326.2]]) (by kernel_rfl) lookC_hit) SJ.la
   exact hK
 replace hm331 := of_neg hm331 hc321
 have hm331 := sj hm331
 subst hm331
 refine TS.dp [] (fun e he => by cases he) mixed 13 [0, 1, 4, 12, 13, 139] [0] (st 178 [(0, anyV 0 v176.length), (1, iv p1), (4, fn 87), (12, iv r295), (13, iv v308), (139, .bool false)]) [lb101 v176] ?_ ?_
 · exact QJ.rn (qs (st 178 [(0, anyV 0 v176.length), (1, iv p1), (4, fn 87), (12, iv r295), (13, iv v308), (123, iv r295), (124, iv v308)]) [lb101 v176] [] []) 2 (QJ.o { val := .bool false } (q_conv (e := decide (r295 ≤ v308)) (b := false) (by kernel_rfl) hc321) (QJ.rn (qs (st 178 [(0, anyV 0 v176.length), (1, iv p1), (4, fn 87), (12, iv r295), (13, iv v308), (123, iv r295), (124, iv v308), (125, .bool false), (126, .bool false), (127, undef), (128, undef), (129, undef), (130, undef), (131, undef), (132, undef), (133, undef), (134, undef), (135, undef)]) [lb101 v176] [] []) 10 (QJ.dn ⟨rfl, SJ.la⟩)))
 exact hK
def P117l2 (p1 : Int) (r : (List I2) × Int) : Post := fun e a h => e = .exit 4 ∧ Wk Pg 0 1 a h (st 178 [(0, anyV 0 r.1.length), (1, iv p1), (13, iv r.2)]) [lb101 r.1]
theorem L117l2 (p1 v174 v175 : Int) (v176 : List I2) (r : (List I2) × Int) (hF : F117l2 p1 v174 v175 v176 = some r) : TL Pg 0 1 c117.s2.s2.s2.s2.s2.s2.s2.s2.s2.s1.bd.bd (S117_46 v176 p1 v174 v175) [lb101 v176] (P117l2 p1 r) := by
 refine F117l2.partial_correctness p1 (motive := fun v174 v175 v176 r => TL Pg 0 1 c117.s2.s2.s2.s2.s2.s2.s2.s2.s2.s1.bd.bd (S117_46 v176 p1 v174 v175) [lb101 v176] (P117l2 p1 r)) ?_ v174 v175 v176 r hF
 clear hF r v174 v175 v176
 intro again ih v174 v175 v176 r hF
 refine TL.round (TS.bk 5 (TS.sq (TS.bk 6 ?_)))
 obtain ⟨r295, h296, hF⟩ := of_do hF
 refine TS.lp (TL.weak (a2 := (S117_46 v176 p1 v174 v175)) (h2 := [lb101 v176]) (Wk.an [] Ats.l [anyV 0 v176.length, iv p1, fn 87, iv v174, iv v175] (.cons rav (.fl (.cons (Rn.func' .nil .nil) (.fl (.fl .nil)))))) (TL.post (L117l3 p1 v175 v176 v174 r295 h296) ?_))
 rintro e a1 h1 hp
 obtain ⟨rfl, hw⟩ := hp
 refine ⟨(st 178 [(0, anyV 0 v176.length), (1, iv p1), (4, fn 87), (12, iv r295), (13, iv v175)]), [lb101 v176], (NX.bkX (NX.sq (TS.sq (TS.bk 8 ?_)))), hw⟩
 obtain ⟨r332, h333, hF⟩ := of_do hF
 refine TS.lp (TL.weak (a2 := (st 178 [(0, anyV 0 v176.length), (1, iv p1), (4, fn 87), (12, iv r295), (13, iv v175)])) (h2 := [lb101 v176]) (Wk.an [] Ats.l [anyV 0 v176.length, iv p1, fn 87, iv r295, iv v175] (.cons rav (.fl (.cons (Rn.func' .nil .nil) (.fl (.fl .nil)))))) (TL.post (L117l4 p1 r295 v176 v175 r332 h333) ?_))
 rintro e a1 h1 hp
 obtain ⟨rfl, hw⟩ := hp
 refine ⟨(st 178 [(0, anyV 0 v176.length), (1, iv p1), (4, fn 87), (12, iv r295), (13, iv r332)]), [lb101 v176], (NX.bkX (NX.sq (TS.sq (TS.sq (TS.rg (TI.ra 3 [0, 1, 4, 12, 13, 144] (st 178 [(0, anyV 0 v176.length), (1, iv p1), (4, fn 87), (12, iv r295), (13, iv r332), (144, .bool (decide (r295 > r332)))]) (TI.dq ?_))))))), hw⟩
 refine TS.cd (.tmp 144) (decide (r295 > r332)) (fun hc335 => ?_) (fun hc335 => ?_)
 · replace hF := of_pos hF hc335
   refine TS.ex 4 (NX.sqX (NX.bkY rfl ?_))
   have hF := sj hF
   subst hF
   exact Rd.out (e := .exit 4) (by intro h; cases h) (And.intro rfl (Wk.an [] Ats.l [anyV 0 v176.length, iv p1, iv r332] (.cons rav (.fl (.fl .nil)))))
 replace hF := of_neg hF hc335
 refine TS.sk (NX.sq (TS.sq ?_))
 obtain ⟨hg336, hF⟩ := of_guard hF
 obtain ⟨o337, h338, hF⟩ := of_do hF
 replace h338 := sj h338
 obtain ⟨hg339, hF⟩ := of_guard hF
 obtain ⟨o340, h341, hF⟩ := of_do hF
 replace h341 := sj h341
 refine TS.draw' (id := 18) (b := true) (ops := c117.s2.s2.s2.s2.s2.s2.s2.s2.s2.s1.bd.bd.bd.s2.s2.s2.s1.rops) (fin := (qs (S117_3 v176 p1 r295 r332 o337 o340) (H117_49 v176 r295 o337) [] [(13, 0)])) (fin2 := (qs (S117_3 v176 p1 r295 r332 o337 o340) (H117_49 v176 r295 o337) [] [(13, 0)])) (a1 := (S117_0 v176 p1 r295 r332 o337 o340)) (h1 := (H117_45 v176 r295 o337 r332 o340)) (a2 := (st 178 [(0, anyV 0 v176.length), (1, iv p1), (4, fn 87), (12, iv r295), (13, iv r332)])) (h2 := (H117_45 v176 r295 o337 r332 o340)) [] (fun e he => by cases he) mixed (by kernel_rfl) rfl 14 (by kernel_rfl) [(13, 0)] ?_ rfl (.inr ⟨?_, (by kernel_rfl)⟩) ?_ [0, 1, 4, 12, 13] [0] (by kernel_rfl) ?_
 iterate 2
  · refine QI.r (qs (S117_33 v176 p1 r295 r332) [lb101 v176] [] []) 6 (QI.o { val := pt 0 (0 + r332.toNat * 2) } (qs (S117_28 v176 p1 r295 r332) [lb101 v176] [] []) (q_ixS 0 0 (r332.toNat * 2) (by kernel_rfl) hg336) (QI.o { val := ag [iv o337.1, iv o337.2] } (qs (S117_23 v176 p1 r295 r332 o337) [lb101 v176] [] []) (q_nA Pg [lb101 v176] 101 0 (0 + r332.toNat * 2) v176 e101 2 101 r332.toNat (0, 0) h338) (QI.r (qs (S117_18 v176 p1 r295 r332 o337) [lb101 v176] [] []) 2 (QI.o { val := pt 0 (0 + r295.toNat * 2) } (qs (S117_11 v176 p1 r295 r332 o337) [lb101 v176] [] []) (q_ixS 0 0 (r295.toNat * 2) (by kernel_rfl) hg339) (QI.o { val := ag [iv o340.1, iv o340.2] } (qs (S117_8 v176 p1 r295 r332 o337 o340) [lb101 v176] [] []) (q_nA Pg [lb101 v176] 101 0 (0 + r295.toNat * 2) v176 e101 2 101 r295.toNat (0, 0) h341) (QI.o { val := pt 0 (0 + r295.toNat * 2) } (qs (S117_3 v176 p1 r295 r332 o337 o340) [lb101 v176] [] []) (q_ixS 0 0 (r295.toNat * 2) (by kernel_rfl) hg339) ?_))))))
    exact QI.o { val := undef, upd := some (0, lb101 (List.set v176 r295.toNat (o337.1, o337.2))) } (qs (S117_3 v176 p1 r295 r332 o337 o340) (H117_49 v176 r295 o337) [] [(13, 0)]) (q_stP Pg 0 [lb101 v176] 101 0 (0 + r295.toNat * 2) v176 e101 2 101 r295.toNat 0 2 (ag [iv o337.1, iv o337.2]) [iv o337.1, iv o337.2] (0, 0) (o337.1, o337.2) (by first | omega | (simp <;> omega))) (QI.done (by kernel_rfl))
 · refine SI.o { val := pt 0 (0 + r332.toNat * 2) } (S117_0 v176 p1 r295 r332 o337 o340) (H117_49 v176 r295 o337) (q_ixS 0 0 (r332.toNat * 2) (by kernel_rfl) hg336) ?_
   exact SI.o { val := undef, upd := some (0, lb101 (List.set (List.set v176 r295.toNat (o337.1, o337.2)) r332.toNat (o340.1, o340.2))) } (S117_0 v176 p1 r295 r332 o337 o340) (H117_45 v176 r295 o337 r332 o340) (q_stP Pg 0 (H117_49 v176 r295 o337) 101 0 (0 + r332.toNat * 2) (List.set v176 r295.toNat (o337.1, o337.2)) e101 2 101 r332.toNat 0 2 (ag [iv o340.1, iv o340.2]) [iv o340.1, iv o340.2] (0, 0) (o340.1, o340.2) (by first | omega | (simp <;> omega))) (SI.done (by kernel_rfl))
 refine TS.sq (TS.rg (TI.ra 3 [0, 1, 4, 12, 13] (st 178 [(0, anyV 0 v176.length), (1, iv p1), (4, fn 87), (12, iv (w64 (r295 + 1))), (13, iv r332)]) (TI.dq (TS.rg (TI.ra 3 [0, 1, 4, 12, 13] (st 178 [(0, anyV 0 v176.length), (1, iv p1), (4, fn 87), (12, iv (w64 (r295 + 1))), (13, iv (w64 (r332 - 1)))]) (TI.dn (NX.bk ?_)))))))
 exact Rd.again (a2 := (st 178 [(0, anyV 0 (List.length (List.set (List.set v176 r295.toNat (o337.1, o337.2)) r332.toNat (o340.1, o340.2)))), (1, iv p1), (4, fn 87), (12, iv (w64 (r295 + 1))), (13, iv (w64 (r332 - 1)))])) (h2 := (H117_45 v176 r295 o337 r332 o340)) (Wk.an [] Ats.l [anyV 0 v176.length, iv p1, fn 87, iv (w64 (r295 + 1)), iv (w64 (r332 - 1))] (.cons rav (.fl (.cons (Rn.func' .nil .nil) (.fl (.fl .nil)))))) (ih (w64 (r295 + 1)) (w64 (r332 - 1)) (List.set (List.set v176 r295.toNat (o337.1, o337.2)) r332.toNat (o340.1, o340.2)) _ hF)
theorem B117 (p0 : List I2) (p1 p2 p3 : Int) (r : Int × Bool × (List I2)) (hF : F117 p0 p1 p2 p3 = some r) : TS Pg 0 1 c117 (st 178 [(0, anyV 0 p0.length), (1, iv p1), (2, iv p2), (3, iv p3), (4, fn 87)]) [lb101 p0] (NX Pg 0 1 [] (SortFin Pg Try.f117 [lb101 r.2.2] (.tuple #[iv r.1, .bool r.2.1]))) := by
 unfold F117 at hF
 refine TS.sq (TS.rg (TI.ra 2 [0, 1, 2, 3, 4] (st 178 [(0, anyV 0 p0.length), (1, iv p1), (2, iv p2), (3, iv p3), (4, fn 87)]) (TI.dq (TS.sq ?_))))
 obtain ⟨hg1, hF⟩ := of_guard hF
 obtain ⟨o2, h3, hF⟩ := of_do hF
 replace h3 := sj h3
 obtain ⟨hg4, hF⟩ := of_guard hF
 obtain ⟨o5, h6, hF⟩ := of_do hF
 replace h6 := sj h6
 refine TS.draw' (id := 1) (b := true) (ops := c117.s2.s1.rops) (fin := (qs (S117_10 p0 p1 p2 p3 o2 o5) (H117_50 p0 p1 o2) [] [(13, 0)])) (fin2 := (qs (S117_10 p0 p1 p2 p3 o2 o5) (H117_50 p0 p1 o2) [] [(13, 0)])) (a1 := (S117_5 p0 p1 p2 p3 o2 o5)) (h1 := (H117_47 p0 p1 o2 p3 o5)) (a2 := (st 178 [(0, anyV 0 p0.length), (1, iv p1), (2, iv p2), (4, fn 87)])) (h2 := (H117_47 p0 p1 o2 p3 o5)) [] (fun e he => by cases he) mixed (by kernel_rfl) rfl 14 (by kernel_rfl) [(13, 0)] ?_ rfl (.inr ⟨?_, (by kernel_rfl)⟩) ?_ [0, 1, 2, 4] [0] (by kernel_rfl) ?_
 iterate 2
  · refine QI.r (qs (S117_38 p0 p1 p2 p3) [lb101 p0] [] []) 6 (QI.o { val := pt 0 (0 + p3.toNat * 2) } (qs (S117_34 p0 p1 p2 p3) [lb101 p0] [] []) (q_ixS 0 0 (p3.toNat * 2) (by kernel_rfl) hg1) (QI.o { val := ag [iv o2.1, iv o2.2] } (qs (S117_31 p0 p1 p2 p3 o2) [lb101 p0] [] []) (q_nA Pg [lb101 p0] 101 0 (0 + p3.toNat * 2) p0 e101 2 101 p3.toNat (0, 0) h3) (QI.r (qs (S117_26 p0 p1 p2 p3 o2) [lb101 p0] [] []) 2 (QI.o { val := pt 0 (0 + p1.toNat * 2) } (qs (S117_20 p0 p1 p2 p3 o2) [lb101 p0] [] []) (q_ixS 0 0 (p1.toNat * 2) (by kernel_rfl) hg4) (QI.o { val := ag [iv o5.1, iv o5.2] } (qs (S117_17 p0 p1 p2 p3 o2 o5) [lb101 p0] [] []) (q_nA Pg [lb101 p0] 101 0 (0 + p1.toNat * 2) p0 e101 2 101 p1.toNat (0, 0) h6) (QI.o { val := pt 0 (0 + p1.toNat * 2) } (qs (S117_10 p0 p1 p2 p3 o2 o5) [lb101 p0] [] []) (q_ixS 0 0 (p1.toNat * 2) (by kernel_rfl) hg4) ?_))))))
    exact QI.o { val := undef, upd := some (0, lb101 (List.set p0 p1.toNat (o2.1, o2.2))) } (qs (S117_10 p0 p1 p2 p3 o2 o5) (H117_50 p0 p1 o2) [] [(13, 0)]) (q_stP Pg 0 [lb101 p0] 101 0 (0 + p1.toNat * 2) p0 e101 2 101 p1.toNat 0 2 (ag [iv o2.1, iv o2.2]) [iv o2.1, iv o2.2] (0, 0) (o2.1, o2.2) (by first | omega | (simp <;> omega))) (QI.done (by kernel_rfl))
 · refine SI.o { val := pt 0 (0 + p3.toNat * 2) } (S117_5 p0 p1 p2 p3 o2 o5) (H117_50 p0 p1 o2) (q_ixS 0 0 (p3.toNat * 2) (by kernel_rfl) hg1) ?_
   exact SI.o { val := undef, upd := some (0, lb101 (List.set (List.set p0 p1.toNat (o2.1, o2.2)) p3.toNat (o5.1, o5.2))) } (S117_5 p0 p1 p2 p3 o2 o5) (H117_47 p0 p1 o2 p3 o5) (q_stP Pg 0 (H117_50 p0 p1 o2) 101 0 (0 + p3.toNat * 2) (List.set p0 p1.toNat (o2.1, o2.2)) e101 2 101 p3.toNat 0 2 (ag [iv o5.1, iv o5.2]) [iv o5.1, iv o5.2] (0, 0) (o5.1, o5.2) (by first | omega | (simp <;> omega))) (SI.done (by kernel_rfl))
 refine TS.sq (TS.rg (TI.ra 6 [0, 1, 4, 12, 13] (st 178 [(0, anyV 0 p0.length), (1, iv p1), (4, fn 87), (12, iv (w64 (p1 + 1))), (13, iv (w64 (p2 - 1)))]) (TI.dq (TS.sq (TS.bk 0 ?_)))))
 obtain ⟨r42, h43, hF⟩ := of_do hF
 refine TS.lp (TL.weak (a2 := (st 178 [(0, anyV 0 p0.length), (1, iv p1), (4, fn 87), (12, iv (w64 (p1 + 1))), (13, iv (w64 (p2 - 1)))])) (h2 := (H117_47 p0 p1 o2 p3 o5)) (Wk.an [] Ats.l [anyV 0 p0.length, iv p1, fn 87, iv (w64 (p1 + 1)), iv (w64 (p2 - 1))] (.cons rav (.fl (.cons (Rn.func' .nil .nil) (.fl (.fl .nil)))))) (TL.post (L117l0 p0 p1 p2 p3 o2 o5 (w64 (p1 + 1)) r42 h43) ?_))
 rintro e a1 h1 hp
 obtain ⟨rfl, hw⟩ := hp
 refine ⟨(st 178 [(0, anyV 0 p0.length), (1, iv p1), (4, fn 87), (12, iv r42), (13, iv (w64 (p2 - 1)))]), (H117_47 p0 p1 o2 p3 o5), (NX.bkX (NX.sq (TS.sq (TS.bk 2 ?_)))), hw⟩
 obtain ⟨r79, h80, hF⟩ := of_do hF
 refine TS.lp (TL.weak (a2 := (st 178 [(0, anyV 0 p0.length), (1, iv p1), (4, fn 87), (12, iv r42), (13, iv (w64 (p2 - 1)))])) (h2 := (H117_47 p0 p1 o2 p3 o5)) (Wk.an [] Ats.l [anyV 0 p0.length, iv p1, fn 87, iv r42, iv (w64 (p2 - 1))] (.cons rav (.fl (.cons (Rn.func' .nil .nil) (.fl (.fl .nil)))))) (TL.post (L117l1 p0 p1 p3 o2 o5 r42 (w64 (p2 - 1)) r79 h80) ?_))
 rintro e a1 h1 hp
 obtain ⟨rfl, hw⟩ := hp
 refine ⟨(st 178 [(0, anyV 0 p0.length), (1, iv p1), (4, fn 87), (12, iv r42), (13, iv r79)]), (H117_47 p0 p1 o2 p3 o5), (NX.bkX (NX.sq (TS.sq (TS.sq (TS.rg (TI.ra 3 [0, 1, 4, 12, 13, 71] (st 178 [(0, anyV 0 p0.length), (1, iv p1), (4, fn 87), (12, iv r42), (13, iv r79), (71, .bool (decide (r42 > r79)))]) (TI.dq ?_))))))), hw⟩
 refine TS.cd (.tmp 71) (decide (r42 > r79)) (fun hc81 => ?_) (fun hc81 => ?_)
 · replace hF := of_pos hF hc81
   refine TS.sq ?_
   obtain ⟨o82, h83, hF⟩ := of_do hF
   replace h83 := sj h83
   obtain ⟨hg84, hF⟩ := of_guard hF
   obtain ⟨o85, h86, hF⟩ := of_do hF
   replace h86 := sj h86
   refine TS.draw' (id := 8) (b := true) (ops := c117.s2.s2.s2.s2.s2.s1.s2.th.s1.rops) (fin := (qs (S117_7 p0 p1 r42 r79 o82 o85) (H117_42 p0 p1 o2 p3 o5 r79 o82) [] [(13, 0)])) (fin2 := (qs (S117_7 p0 p1 r42 r79 o82 o85) (H117_42 p0 p1 o2 p3 o5 r79 o82) [] [(13, 0)])) (a1 := (S117_2 p0 p1 r42 r79 o82 o85)) (h1 := (H117_41 p0 p1 o2 p3 o5 r79 o82 o85)) (a2 := (st 178 [(0, anyV 0 p0.length), (13, iv r79)])) (h2 := (H117_41 p0 p1 o2 p3 o5 r79 o82 o85)) [] (fun e he => by cases he) mixed (by kernel_rfl) rfl 14 (by kernel_rfl) [(13, 0)] ?_ rfl (.inr ⟨?_, (by kernel_rfl)⟩) ?_ [0, 13] [0] (by kernel_rfl) ?_
   iterate 2
    · refine QI.r (qs (S117_37 p0 p1 r42 r79) (H117_47 p0 p1 o2 p3 o5) [] []) 6 (QI.o { val := pt 0 (0 + p1.toNat * 2) } (qs (S117_30 p0 p1 r42 r79) (H117_47 p0 p1 o2 p3 o5) [] []) (q_ixS 0 0 (p1.toNat * 2) (by kernel_rfl) hg4) (QI.o { val := ag [iv o82.1, iv o82.2] } (qs (S117_27 p0 p1 r42 r79 o82) (H117_47 p0 p1 o2 p3 o5) [] []) (q_nA Pg (H117_47 p0 p1 o2 p3 o5) 101 0 (0 + p1.toNat * 2) (List.set (List.set p0 p1.toNat (o2.1, o2.2)) p3.toNat (o5.1, o5.2)) e101 2 101 p1.toNat (0, 0) h83) (QI.r (qs (S117_22 p0 p1 r42 r79 o82) (H117_47 p0 p1 o2 p3 o5) [] []) 2 (QI.o { val := pt 0 (0 + r79.toNat * 2) } (qs (S117_15 p0 p1 r42 r79 o82) (H117_47 p0 p1 o2 p3 o5) [] []) (q_ixS 0 0 (r79.toNat * 2) (by kernel_rfl) hg84) (QI.o { val := ag [iv o85.1, iv o85.2] } (qs (S117_13 p0 p1 r42 r79 o82 o85) (H117_47 p0 p1 o2 p3 o5) [] []) (q_nA Pg (H117_47 p0 p1 o2 p3 o5) 101 0 (0 + r79.toNat * 2) (List.set (List.set p0 p1.toNat (o2.1, o2.2)) p3.toNat (o5.1, o5.2)) e101 2 101 r79.toNat (0, 0) h86) (QI.o { val := pt 0 (0 + r79.toNat * 2) } (qs (S117_7 p0 p1 r42 r79 o82 o85) (H117_47 p0 p1 o2 p3 o5) [] []) (q_ixS 0 0 (r79.toNat * 2) (by kernel_rfl) hg84) ?_))))))
      exact QI.o { val := undef, upd := some (0, lb101 (List.set (List.set (List.set p0 p1.toNat (o2.1, o2.2)) p3.toNat (o5.1, o5.2)) r79.toNat (o82.1, o82.2))) } (qs (S117_7 p0 p1 r42 r79 o82 o85) (H117_42 p0 p1 o2 p3 o5 r79 o82) [] [(13, 0)]) (q_stP Pg 0 (H117_47 p0 p1 o2 p3 o5) 101 0 (0 + r79.toNat * 2) (List.set (List.set p0 p1.toNat (o2.1, o2.2)) p3.toNat (o5.1, o5.2)) e101 2 101 r79.toNat 0 2 (ag [iv o82.1, iv o82.2]) [iv o82.1, iv o82.2] (0, 0) (o82.1, o82.2) (by first | omega | (simp <;> omega))) (QI.done (by kernel_rfl))
   · refine SI.o { val := pt 0 (0 + p1.toNat * 2) } (S117_2 p0 p1 r42 r79 o82 o85) (H117_42 p0 p1 o2 p3 o5 r79 o82) (q_ixS 0 0 (p1.toNat * 2) (by kernel_rfl) hg4) ?_
     exact SI.o { val := undef, upd := some (0, lb101 (List.set (List.set (List.set (List.set p0 p1.toNat (o2.1, o2.2)) p3.toNat (o5.1, o5.2)) r79.toNat (o82.1, o82.2)) p1.toNat (o85.1, o85.2))) } (S117_2 p0 p1 r42 r79 o82 o85) (H117_41 p0 p1 o2 p3 o5 r79 o82 o85) (q_stP Pg 0 (H117_42 p0 p1 o2 p3 o5 r79 o82) 101 0 (0 + p1.toNat * 2) (List.set (List.set (List.set p0 p1.toNat (o2.1, o2.2)) p3.toNat (o5.1, o5.2)) r79.toNat (o82.1, o82.2)) e101 2 101 p1.toNat 0 2 (ag [iv o85.1, iv o85.2]) [iv o85.1, iv o85.2] (0, 0) (o85.1, o85.2) (by first | omega | (simp <;> omega))) (SI.done (by kernel_rfl))
   refine TS.sq (TS.rg (TI.ra 3 [0, 10, 11] (st 178 [(0, anyV 0 p0.length), (10, iv r79), (11, .bool true)]) (TI.dq (TS.rt (NX.sqR ?_)))))
   have hF := sj hF
   subst hF
   exact ⟨.inr rfl, rfl, rfl, by kernel_rfl⟩
 replace hF := of_neg hF hc81
 refine TS.sk (NX.sq (TS.sq ?_))
 obtain ⟨hg87, hF⟩ := of_guard hF
 obtain ⟨o88, h89, hF⟩ := of_do hF
 replace h89 := sj h89
 obtain ⟨hg90, hF⟩ := of_guard hF
 obtain ⟨o91, h92, hF⟩ := of_do hF
 replace h92 := sj h92
 refine TS.draw' (id := 10) (b := true) (ops := c117.s2.s2.s2.s2.s2.s2.s1.rops) (fin := (qs (S117_6 p0 p1 r42 r79 o88 o91) (H117_43 p0 p1 o2 p3 o5 r42 o88) [] [(13, 0)])) (fin2 := (qs (S117_6 p0 p1 r42 r79 o88 o91) (H117_43 p0 p1 o2 p3 o5 r42 o88) [] [(13, 0)])) (a1 := (S117_1 p0 p1 r42 r79 o88 o91)) (h1 := (H117_40 p0 p1 o2 p3 o5 r42 o88 r79 o91)) (a2 := (st 178 [(0, anyV 0 p0.length), (1, iv p1), (4, fn 87), (12, iv r42), (13, iv r79)])) (h2 := (H117_40 p0 p1 o2 p3 o5 r42 o88 r79 o91)) [] (fun e he => by cases he) mixed (by kernel_rfl) rfl 14 (by kernel_rfl) [(13, 0)] ?_ rfl (.inr ⟨?_, (by kernel_rfl)⟩) ?_ [0, 1, 4, 12, 13] [0] (by kernel_rfl) ?_
 iterate 2
  · refine QI.r (qs (S117_36 p0 p1 r42 r79) (H117_47 p0 p1 o2 p3 o5) [] []) 6 (QI.o { val := pt 0 (0 + r79.toNat * 2) } (qs (S117_29 p0 p1 r42 r79) (H117_47 p0 p1 o2 p3 o5) [] []) (q_ixS 0 0 (r79.toNat * 2) (by kernel_rfl) hg87) (QI.o { val := ag [iv o88.1, iv o88.2] } (qs (S117_25 p0 p1 r42 r79 o88) (H117_47 p0 p1 o2 p3 o5) [] []) (q_nA Pg (H117_47 p0 p1 o2 p3 o5) 101 0 (0 + r79.toNat * 2) (List.set (List.set p0 p1.toNat (o2.1, o2.2)) p3.toNat (o5.1, o5.2)) e101 2 101 r79.toNat (0, 0) h89) (QI.r (qs (S117_21 p0 p1 r42 r79 o88) (H117_47 p0 p1 o2 p3 o5) [] []) 2 (QI.o { val := pt 0 (0 + r42.toNat * 2) } (qs (S117_14 p0 p1 r42 r79 o88) (H117_47 p0 p1 o2 p3 o5) [] []) (q_ixS 0 0 (r42.toNat * 2) (by kernel_rfl) hg90) (QI.o { val := ag [iv o91.1, iv o91.2] } (qs (S117_12 p0 p1 r42 r79 o88 o91) (H117_47 p0 p1 o2 p3 o5) [] []) (q_nA Pg (H117_47 p0 p1 o2 p3 o5) 101 0 (0 + r42.toNat * 2) (List.set (List.set p0 p1.toNat (o2.1, o2.2)) p3.toNat (o5.1, o5.2)) e101 2 101 r42.toNat (0, 0) h92) (QI.o { val := pt 0 (0 + r42.toNat * 2) } (qs (S117_6 p0 p1 r42 r79 o88 o91) (H117_47 p0 p1 o2 p3 o5) [] []) (q_ixS 0 0 (r42.toNat * 2) (by kernel_rfl) hg90) ?_))))))
    exact QI.o { val := undef, upd := some (0, lb101 (List.set (List.set (List.set p0 p1.toNat (o2.1, o2.2)) p3.toNat (o5.1, o5.2)) r42.toNat (o88.1, o88.2))) } (qs (S117_6 p0 p1 r42 r79 o88 o91) (H117_43 p0 p1 o2 p3 o5 r42 o88) [] [(13, 0)]) (q_stP Pg 0 (H117_47 p0 p1 o2 p3 o5) 101 0 (0 + r42.toNat * 2) (List.set (List.set p0 p1.toNat (o2.1, o2.2)) p3.toNat (o5.1, o5.2)) e101 2 101 r42.toNat 0 2 (ag [iv o88.1, iv o88.2]) [iv o88.1, iv o88.2] (0, 0) (o88.1, o88.2) (by first | omega | (simp <;> omega))) (QI.done (by kernel_rfl))
 · refine SI.o { val := pt 0 (0 + r79.toNat * 2) } (S117_1 p0 p1 r42 r79 o88 o91) (H117_43 p0 p1 o2 p3 o5 r42 o88) (q_ixS 0 0 (r79.toNat * 2) (by kernel_rfl) hg87) ?_
   exact SI.o { val := undef, upd := some (0, lb101 (List.set (List.set (List.set (List.set p0 p1.toNat (o2.1, o2.2)) p3.toNat (o5.1, o5.2)) r42.toNat (o88.1, o88.2)) r79.toNat (o91.1, o91.2))) } (S117_1 p0 p1 r42 r79 o88 o91) (H117_40 p0 p1 o2 p3 o5 r42 o88 r79 o91) (q_stP Pg 0 (H117_43 p0 p1 o2 p3 o5 r42 o88) 101 0 (0 + r79.toNat * 2) (List.set (List.set (List.set p0 p1.toNat (o2.1, o2.2)) p3.toNat (o5.1, o5.2)) r42.toNat (o88.1, o88.2)) e101 2 101 r79.toNat 0 2 (ag [iv o91.1, iv o91.2]) [iv o91.1, iv o91.2] (0, 0) (o91.1, o91.2) (by first | omega | (simp <;> omega))) (SI.done (by kernel_rfl))
 refine TS.sq (TS.rg (TI.ra 3 [0, 1, 4, 12, 13] (st 178 [(0, anyV 0 p0.length), (1, iv p1), (4, fn 87), (12, iv (w64 (r42 + 1))), (13, iv r79)]) (TI.dq (TS.sq (TS.rg (TI.ra 3 [0, 1, 4, 12, 13] (st 178 [(0, anyV 0 p0.length), (1, iv p1), (4, fn 87), (12, iv (w64 (r42 + 1))), (13, iv (w64 (r79 - 1)))]) (TI.dn ?_)))))))
 refine NX.sq (TS.sq (TS.bk 4 ?_))
 obtain ⟨r342, h343, hF⟩ := of_do hF
 refine TS.lp (TL.weak (a2 := (st 178 [(0, anyV 0 (List.length (List.set (List.set (List.set (List.set p0 p1.toNat (o2.1, o2.2)) p3.toNat (o5.1, o5.2)) r42.toNat (o88.1, o88.2)) r79.toNat (o91.1, o91.2)))), (1, iv p1), (4, fn 87), (12, iv (w64 (r42 + 1))), (13, iv (w64 (r79 - 1)))])) (h2 := (H117_40 p0 p1 o2 p3 o5 r42 o88 r79 o91)) (Wk.an [] Ats.l [anyV 0 p0.length, iv p1, fn 87, iv (w64 (r42 + 1)), iv (w64 (r79 - 1))] (.cons rav (.fl (.cons (Rn.func' .nil .nil) (.fl (.fl .nil)))))) (TL.post (L117l2 p1 (w64 (r42 + 1)) (w64 (r79 - 1)) (List.set (List.set (List.set (List.set p0 p1.toNat (o2.1, o2.2)) p3.toNat (o5.1, o5.2)) r42.toNat (o88.1, o88.2)) r79.toNat (o91.1, o91.2)) r342 h343) ?_))
 rintro e a1 h1 hp
 obtain ⟨rfl, hw⟩ := hp
 refine ⟨(st 178 [(0, anyV 0 r342.1.length), (1, iv p1), (13, iv r342.2)]), [lb101 r342.1], (NX.bkX (NX.sq (TS.sq ?_))), hw⟩
 obtain ⟨hg344, hF⟩ := of_guard hF
 obtain ⟨o345, h346, hF⟩ := of_do hF
 replace h346 := sj h346
 obtain ⟨hg347, hF⟩ := of_guard hF
 obtain ⟨o348, h349, hF⟩ := of_do hF
 replace h349 := sj h349
 refine TS.draw' (id := 21) (b := true) (ops := c117.s2.s2.s2.s2.s2.s2.s2.s2.s2.s2.s1.rops) (fin := (qs (S117_9 r342 p1 o345 o348) (H117_48 r342 o345) [] [(13, 0)])) (fin2 := (qs (S117_9 r342 p1 o345 o348) (H117_48 r342 o345) [] [(13, 0)])) (a1 := (S117_4 r342 p1 o345 o348)) (h1 := (H117_44 r342 o345 p1 o348)) (a2 := (st 178 [(0, anyV 0 r342.1.length), (13, iv r342.2)])) (h2 := (H117_44 r342 o345 p1 o348)) [] (fun e he => by cases he) mixed (by kernel_rfl) rfl 14 (by kernel_rfl) [(13, 0)] ?_ rfl (.inr ⟨?_, (by kernel_rfl)⟩) ?_ [0, 13] [0] (by kernel_rfl) ?_
 iterate 2
  · refine QI.r (qs (S117_39 r342 p1) [lb101 r342.1] [] []) 6 (QI.o { val := pt 0 (0 + p1.toNat * 2) } (qs (S117_35 r342 p1) [lb101 r342.1] [] []) (q_ixS 0 0 (p1.toNat * 2) (by kernel_rfl) hg344) (QI.o { val := ag [iv o345.1, iv o345.2] } (qs (S117_32 r342 p1 o345) [lb101 r342.1] [] []) (q_nA Pg [lb101 r342.1] 101 0 (0 + p1.toNat * 2) r342.1 e101 2 101 p1.toNat (0, 0) h346) (QI.r (qs (S117_24 r342 p1 o345) [lb101 r342.1] [] []) 2 (QI.o { val := pt 0 (0 + (Int.toNat r342.2) * 2) } (qs (S117_19 r342 p1 o345) [lb101 r342.1] [] []) (q_ixS 0 0 ((Int.toNat r342.2) * 2) (by kernel_rfl) hg347) (QI.o { val := ag [iv o348.1, iv o348.2] } (qs (S117_16 r342 p1 o345 o348) [lb101 r342.1] [] []) (q_nA Pg [lb101 r342.1] 101 0 (0 + (Int.toNat r342.2) * 2) r342.1 e101 2 101 (Int.toNat r342.2) (0, 0) h349) (QI.o { val := pt 0 (0 + (Int.toNat r342.2) * 2) } (qs (S117_9 r342 p1 o345 o348) [lb101 r342.1] [] []) (q_ixS 0 0 ((Int.toNat r342.2) * 2) (by kernel_rfl) hg347) ?_))))))
    exact QI.o { val := undef, upd := some (0, lb101 (List.set r342.1 (Int.toNat r342.2) (o345.1, o345.2))) } (qs (S117_9 r342 p1 o345 o348) (H117_48 r342 o345) [] [(13, 0)]) (q_stP Pg 0 [lb101 r342.1] 101 0 (0 + (Int.toNat r342.2) * 2) r342.1 e101 2 101 (Int.toNat r342.2) 0 2 (ag [iv o345.1, iv o345.2]) [iv o345.1, iv o345.2] (0, 0) (o345.1, o345.2) (by first | omega | (simp <;> omega))) (QI.done (by kernel_rfl))
 · refine SI.o { val := pt 0 (0 + p1.toNat * 2) } (S117_4 r342 p1 o345 o348) (H117_48 r342 o345) (q_ixS 0 0 (p1.toNat * 2) (by kernel_rfl) hg344) ?_
   exact SI.o { val := undef, upd := some (0, lb101 (List.set (List.set r342.1 (Int.toNat r342.2) (o345.1, o345.2)) p1.toNat (o348.1, o348.2))) } (S117_4 r342 p1 o345 o348) (H117_44 r342 o345 p1 o348) (q_stP Pg 0 (H117_48 r342 o345) 101 0 (0 + p1.toNat * 2) (List.set r342.1 (Int.toNat r342.2) (o345.1, o345.2)) e101 2 101 p1.toNat 0 2 (ag [iv o348.1, iv o348.2]) [iv o348.1, iv o348.2] (0, 0) (o348.1, o348.2) (by first | omega | (simp <;> omega))) (SI.done (by kernel_rfl))
 refine TS.sq (TS.rg (TI.ra 3 [0, 10, 11] (st 178 [(0, anyV 0 r342.1.length), (10, iv r342.2), (11, .bool false)]) (TI.dq (TS.rt ?_))))
 have hF := sj hF
 subst hF
 exact ⟨.inr rfl, rfl, rfl, by kernel_rfl⟩
theorem C117 (p0 : List I2) (k : Nat) (hk : List.length p0 = k) (p1 p2 p3 : Int) (r : Int × Bool × (List I2)) (hF : F117 p0 p1 p2 p3 = some r) : ImpSim Pg 117 [anyV 0 k, iv p1, iv p2, iv p3, fn 87] 0 [lb101 p0] (.tuple #[iv r.1, .bool r.2.1]) [lb101 r.2.2] := by
 subst hk
 exact ImpSim.of_TS (fn := Try.f117) (c := c117) (by kernel_rfl) (by kernel_rfl) (by kernel_rfl) (Nat.le_refl _) (TS.weak (a2 := (st 178 [(0, anyV 0 p0.length), (1, iv p1), (2, iv p2), (3, iv p3), (4, fn 87)])) (h2 := [lb101 p0]) (Eq.mp (by kernel_rfl) (Wk.tm (P := Pg) (base := 0) (L := 1) (a := { tmps := [anyV 0 p0.length, iv p1, iv p2, iv p3, fn 87] ++ List.replicate 173 undef }) (h := [lb101 p0]) [0, 1, 2, 3, 4])) (B117 p0 p1 p2 p3 r hF))
noncomputable def c115 : Code := Try.f115.code
def S115_28 (v425 : List I2) (p1 p2 r365 v161 v424 r445 : Int) : CAct := (st 141 [(0, anyV 0 v425.length), (1, iv p1), (2, iv p2), (3, fn 87), (9, iv r365), (10, iv v161), (12, iv v424), (124, .bool (!(decide (r445 < 0)))), (125, anyV 0 v425.length), (126, iv v424), (127, anyV 0 v425.length), (128, iv v424), (129, iv (w64 (v424 - 1))), (130, anyV 0 v425.length), (131, iv v424), (132, iv (w64 (v424 - 1)))])
def S115_24 (v425 : List I2) (p1 p2 r365 v161 v424 r445 : Int) : CAct := sx (S115_28 v425 p1 p2 r365 v161 v424 r445) [(133, pt 0 (0 + (w64 (v424 - 1)).toNat * 2))]
def S115_20 (v425 : List I2) (p1 p2 r365 v161 v424 r445 : Int) (o443 : I2) : CAct := sx (S115_24 v425 p1 p2 r365 v161 v424 r445) [(134, ag [iv o443.1, iv o443.2])]
def S115_16 (v425 : List I2) (p1 p2 r365 v161 v424 r445 : Int) (o443 : I2) : CAct := sx (S115_20 v425 p1 p2 r365 v161 v424 r445 o443) [(135, anyV 0 v425.length), (136, iv v424)]
def S115_12 (v425 : List I2) (p1 p2 r365 v161 v424 r445 : Int) (o443 : I2) : CAct := sx (S115_16 v425 p1 p2 r365 v161 v424 r445 o443) [(137, pt 0 (0 + v424.toNat * 2))]
def S115_8 (v425 : List I2) (p1 p2 r365 v161 v424 r445 : Int) (o443 o440 : I2) : CAct := sx (S115_12 v425 p1 p2 r365 v161 v424 r445 o443) [(138, ag [iv o440.1, iv o440.2])]
def S115_4 (v425 : List I2) (p1 p2 r365 v161 v424 r445 : Int) (o443 o440 : I2) : CAct := sx (S115_8 v425 p1 p2 r365 v161 v424 r445 o443 o440) [(139, pt 0 (0 + v424.toNat * 2))]
def S115_0 (v425 : List I2) (p1 p2 r365 v161 v424 r445 : Int) (o443 o440 : I2) : CAct := sx (S115_4 v425 p1 p2 r365 v161 v424 r445 o443 o440) [(140, pt 0 (0 + (w64 (v424 - 1)).toNat * 2))]
def S115_29 (v463 : List I2) (p1 p2 r365 v161 v462 r483 : Int) : CAct := (st 141 [(0, anyV 0 v463.length), (1, iv p1), (2, iv p2), (3, fn 87), (9, iv r365), (10, iv v161), (12, iv v462), (124, .bool (!(decide (r483 < 0)))), (125, anyV 0 v463.length), (126, iv v462), (127, anyV 0 v463.length), (128, iv v462), (129, iv (w64 (v462 - 1))), (130, anyV 0 v463.length), (131, iv v462), (132, iv (w64 (v462 - 1)))])
def S115_25 (v463 : List I2) (p1 p2 r365 v161 v462 r483 : Int) : CAct := sx (S115_29 v463 p1 p2 r365 v161 v462 r483) [(133, pt 0 (0 + (w64 (v462 - 1)).toNat * 2))]
def S115_21 (v463 : List I2) (p1 p2 r365 v161 v462 r483 : Int) (o481 : I2) : CAct := sx (S115_25 v463 p1 p2 r365 v161 v462 r483) [(134, ag [iv o481.1, iv o481.2])]
def S115_17 (v463 : List I2) (p1 p2 r365 v161 v462 r483 : Int) (o481 : I2) : CAct := sx (S115_21 v463 p1 p2 r365 v161 v462 r483 o481) [(135, anyV 0 v463.length), (136, iv v462)]
def S115_13 (v463 : List I2) (p1 p2 r365 v161 v462 r483 : Int) (o481 : I2) : CAct := sx (S115_17 v463 p1 p2 r365 v161 v462 r483 o481) [(137, pt 0 (0 + v462.toNat * 2))]
def S115_9 (v463 : List I2) (p1 p2 r365 v161 v462 r483 : Int) (o481 o478 : I2) : CAct := sx (S115_13 v463 p1 p2 r365 v161 v462 r483 o481) [(138, ag [iv o478.1, iv o478.2])]
def S115_5 (v463 : List I2) (p1 p2 r365 v161 v462 r483 : Int) (o481 o478 : I2) : CAct := sx (S115_9 v463 p1 p2 r365 v161 v462 r483 o481 o478) [(139, pt 0 (0 + v462.toNat * 2))]
def S115_1 (v463 : List I2) (p1 p2 r365 v161 v462 r483 : Int) (o481 o478 : I2) : CAct := sx (S115_5 v463 p1 p2 r365 v161 v462 r483 o481 o478) [(140, pt 0 (0 + (w64 (v462 - 1)).toNat * 2))]
def S115_30 (v387 : List I2) (p1 p2 r365 v161 v386 r407 : Int) : CAct := (st 141 [(0, anyV 0 v387.length), (1, iv p1), (2, iv p2), (3, fn 87), (9, iv r365), (10, iv v161), (11, iv v386), (84, .bool (!(decide (r407 < 0)))), (85, anyV 0 v387.length), (86, iv v386), (87, anyV 0 v387.length), (88, iv v386), (89, iv (w64 (v386 - 1))), (90, anyV 0 v387.length), (91, iv v386), (92, iv (w64 (v386 - 1)))])
def S115_26 (v387 : List I2) (p1 p2 r365 v161 v386 r407 : Int) : CAct := sx (S115_30 v387 p1 p2 r365 v161 v386 r407) [(93, pt 0 (0 + (w64 (v386 - 1)).toNat * 2))]
def S115_22 (v387 : List I2) (p1 p2 r365 v161 v386 r407 : Int) (o405 : I2) : CAct := sx (S115_26 v387 p1 p2 r365 v161 v386 r407) [(94, ag [iv o405.1, iv o405.2])]
def S115_18 (v387 : List I2) (p1 p2 r365 v161 v386 r407 : Int) (o405 : I2) : CAct := sx (S115_22 v387 p1 p2 r365 v161 v386 r407 o405) [(95, anyV 0 v387.length), (96, iv v386)]
def S115_14 (v387 : List I2) (p1 p2 r365 v161 v386 r407 : Int) (o405 : I2) : CAct := sx (S115_18 v387 p1 p2 r365 v161 v386 r407 o405) [(97, pt 0 (0 + v386.toNat * 2))]
def S115_10 (v387 : List I2) (p1 p2 r365 v161 v386 r407 : Int) (o405 o402 : I2) : CAct := sx (S115_14 v387 p1 p2 r365 v161 v386 r407 o405) [(98, ag [iv o402.1, iv o402.2])]
def S115_6 (v387 : List I2) (p1 p2 r365 v161 v386 r407 : Int) (o405 o402 : I2) : CAct := sx (S115_10 v387 p1 p2 r365 v161 v386 r407 o405 o402) [(99, pt 0 (0 + v386.toNat * 2))]
def S115_2 (v387 : List I2) (p1 p2 r365 v161 v386 r407 : Int) (o405 o402 : I2) : CAct := sx (S115_6 v387 p1 p2 r365 v161 v386 r407 o405 o402) [(100, pt 0 (0 + (w64 (v386 - 1)).toNat * 2))]
def S115_31 (v162 : List I2) (p1 p2 r365 v161 : Int) : CAct := (st 141 [(0, anyV 0 v162.length), (1, iv p1), (2, iv p2), (3, fn 87), (9, iv r365), (10, iv v161), (45, .bool (decide ((w64 (p2 - p1)) < 50))), (46, anyV 0 v162.length), (47, iv r365), (48, anyV 0 v162.length), (49, iv r365), (50, iv (w64 (r365 - 1))), (51, anyV 0 v162.length), (52, iv r365), (53, iv (w64 (r365 - 1)))])
def S115_27 (v162 : List I2) (p1 p2 r365 v161 : Int) : CAct := sx (S115_31 v162 p1 p2 r365 v161) [(54, pt 0 (0 + (w64 (r365 - 1)).toNat * 2))]
def S115_23 (v162 : List I2) (p1 p2 r365 v161 : Int) (o370 : I2) : CAct := sx (S115_27 v162 p1 p2 r365 v161) [(55, ag [iv o370.1, iv o370.2])]
def S115_19 (v162 : List I2) (p1 p2 r365 v161 : Int) (o370 : I2) : CAct := sx (S115_23 v162 p1 p2 r365 v161 o370) [(56, anyV 0 v162.length), (57, iv r365)]
def S115_15 (v162 : List I2) (p1 p2 r365 v161 : Int) (o370 : I2) : CAct := sx (S115_19 v162 p1 p2 r365 v161 o370) [(58, pt 0 (0 + r365.toNat * 2))]
def S115_11 (v162 : List I2) (p1 p2 r365 v161 : Int) (o370 o373 : I2) : CAct := sx (S115_15 v162 p1 p2 r365 v161 o370) [(59, ag [iv o373.1, iv o373.2])]
def S115_7 (v162 : List I2) (p1 p2 r365 v161 : Int) (o370 o373 : I2) : CAct := sx (S115_11 v162 p1 p2 r365 v161 o370 o373) [(60, pt 0 (0 + r365.toNat * 2))]
def S115_3 (v162 : List I2) (p1 p2 r365 v161 : Int) (o370 o373 : I2) : CAct := sx (S115_7 v162 p1 p2 r365 v161 o370 o373) [(61, pt 0 (0 + (w64 (r365 - 1)).toNat * 2))]
def S115_36 (v162 : List I2) (p1 p2 v160 v161 : Int) : CAct := (st 141 [(0, anyV 0 v162.length), (1, iv p1), (2, iv p2), (3, fn 87), (9, iv v160), (10, iv v161)])
def H115_32 (v387 : List I2) (v386 : Int) (o405 o402 : I2) : List Blk := [lb101 (List.set (List.set v387 v386.toNat (o405.1, o405.2)) (w64 (v386 - 1)).toNat (o402.1, o402.2))]
def H115_33 (v425 : List I2) (v424 : Int) (o443 o440 : I2) : List Blk := [lb101 (List.set (List.set v425 v424.toNat (o443.1, o443.2)) (w64 (v424 - 1)).toNat (o440.1, o440.2))]
def H115_34 (v463 : List I2) (v462 : Int) (o481 o478 : I2) : List Blk := [lb101 (List.set (List.set v463 v462.toNat (o481.1, o481.2)) (w64 (v462 - 1)).toNat (o478.1, o478.2))]
def H115_35 (v162 : List I2) (r365 : Int) (o370 o373 : I2) : List Blk := [lb101 (List.set (List.set v162 r365.toNat (o370.1, o370.2)) (w64 (r365 - 1)).toNat (o373.1, o373.2))]
def H115_37 (v387 : List I2) (v386 : Int) (o405 : I2) : List Blk := [lb101 (List.set v387 v386.toNat (o405.1, o405.2))]
def H115_38 (v425 : List I2) (v424 : Int) (o443 : I2) : List Blk := [lb101 (List.set v425 v424.toNat (o443.1, o443.2))]
def H115_39 (v463 : List I2) (v462 : Int) (o481 : I2) : List Blk := [lb101 (List.set v463 v462.toNat (o481.1, o481.2))]
def H115_40 (v162 : List I2) (r365 : Int) (o370 : I2) : List Blk := [lb101 (List.set v162 r365.toNat (o370.1, o370.2))]
def F115l1 (p1 p2 v161 : Int) (v162 : List I2) (v341 : Int) : Option Int :=
 (
  if decide (v341 < p2) then
   if (0 : Int) ≤ v341 ∧ v341 < (v162.length : Int) then
    some (List.getD v162 v341.toNat (0, 0)) >>= fun o356 =>
    if (0 : Int) ≤ w64 (v341 - 1) ∧ w64 (v341 - 1) < (v162.length : Int) then
     some (List.getD v162 (w64 (v341 - 1)).toNat (0, 0)) >>= fun o359 =>
     F87 o356.1 o356.2 o359.1 o359.2 >>= fun r361 =>
     some (!(decide (r361 < 0)))
    else none
   else none
  else
   some (false)
 : Option Bool) >>= fun m363 =>
 if m363 then
  F115l1 p1 p2 v161 v162 (w64 (v341 + 1))
 else
  some v341
 partial_fixpoint
def F115l2 (p1 p2 r365 v161 v386 : Int) (v387 : List I2) : Option (List I2) :=
 if decide (v386 ≥ 1) then
  if (0 : Int) ≤ v386 ∧ v386 < (v387.length : Int) then
   some (List.getD v387 v386.toNat (0, 0)) >>= fun o402 =>
   if (0 : Int) ≤ w64 (v386 - 1) ∧ w64 (v386 - 1) < (v387.length : Int) then
    some (List.getD v387 (w64 (v386 - 1)).toNat (0, 0)) >>= fun o405 =>
    F87 o402.1 o402.2 o405.1 o405.2 >>= fun r407 =>
    if !(decide (r407 < 0)) then
     some v387
    else
     F115l2 p1 p2 r365 v161 (w64 (v386 - 1)) (List.set (List.set v387 v386.toNat (o405.1, o405.2)) (w64 (v386 - 1)).toNat (o402.1, o402.2))
   else none
  else none
 else
  some v387
 partial_fixpoint
def F115l3 (p1 p2 r365 v161 v424 : Int) (v425 : List I2) : Option (List I2) :=
 if decide (v424 < p2) then
  if (0 : Int) ≤ v424 ∧ v424 < (v425.length : Int) then
   some (List.getD v425 v424.toNat (0, 0)) >>= fun o440 =>
   if (0 : Int) ≤ w64 (v424 - 1) ∧ w64 (v424 - 1) < (v425.length : Int) then
    some (List.getD v425 (w64 (v424 - 1)).toNat (0, 0)) >>= fun o443 =>
    F87 o440.1 o440.2 o443.1 o443.2 >>= fun r445 =>
    if !(decide (r445 < 0)) then
     some v425
    else
     F115l3 p1 p2 r365 v161 (w64 (v424 + 1)) (List.set (List.set v425 v424.toNat (o443.1, o443.2)) (w64 (v424 - 1)).toNat (o440.1, o440.2))
   else none
  else none
 else
  some v425
 partial_fixpoint
def F115l4 (p1 p2 r365 v161 v462 : Int) (v463 : List I2) : Option (List I2) :=
 if decide (v462 < p2) then
  if (0 : Int) ≤ v462 ∧ v462 < (v463.length : Int) then
   some (List.getD v463 v462.toNat (0, 0)) >>= fun o478 =>
   if (0 : Int) ≤ w64 (v462 - 1) ∧ w64 (v462 - 1) < (v463.length : Int) then
    some (List.getD v463 (w64 (v462 - 1)).toNat (0, 0)) >>= fun o481 =>
    F87 o478.1 o478.2 o481.1 o481.2 >>= fun r483 =>
    if !(decide (r483 < 0)) then
     some v463
    else
     F115l4 p1 p2 r365 v161 (w64 (v462 + 1)) (List.set (List.set v463 v462.toNat (o481.1, o481.2)) (w64 (v462 - 1)).toNat (o478.1, o478.2))
   else none
  else none
 else
  some v463
 partial_fixpoint
def F115l0 (p1 p2 v160 v161 : Int) (v162 : List I2) : Option (((List I2) × Bool) ⊕ (List I2)) :=
 if decide (v161 < 5) then
  F115l1 p1 p2 v161 v162 v160 >>= fun r365 =>
  if r365 == p2 then
   some (.inl (v162, true))
  else
   if decide ((w64 (p2 - p1)) < 50) then
    some (.inl (v162, false))
   else
    if (0 : Int) ≤ w64 (r365 - 1) ∧ w64 (r365 - 1) < (v162.length : Int) then
     some (List.getD v162 (w64 (r365 - 1)).toNat (0, 0)) >>= fun o370 =>
     if (0 : Int) ≤ r365 ∧ r365 < (v162.length : Int) then
      some (List.getD v162 r365.toNat (0, 0)) >>= fun o373 =>
      if decide ((w64 (r365 - p1)) ≥ 2) then
       F115l2 p1 p2 r365 v161 (w64 (r365 - 1)) (List.set (List.set v162 r365.toNat (o370.1, o370.2)) (w64 (r365 - 1)).toNat (o373.1, o373.2)) >>= fun r411 =>
       if decide ((w64 (p2 - r365)) ≥ 2) then
        F115l3 p1 p2 r365 v161 (w64 (r365 + 1)) r411 >>= fun r449 =>
        F115l0 p1 p2 r365 (w64 (v161 + 1)) r449
       else
        F115l0 p1 p2 r365 (w64 (v161 + 1)) r411
      else
       if decide ((w64 (p2 - r365)) ≥ 2) then
        F115l4 p1 p2 r365 v161 (w64 (r365 + 1)) (List.set (List.set v162 r365.toNat (o370.1, o370.2)) (w64 (r365 - 1)).toNat (o373.1, o373.2)) >>= fun r487 =>
        F115l0 p1 p2 r365 (w64 (v161 + 1)) r487
       else
        F115l0 p1 p2 r365 (w64 (v161 + 1)) (List.set (List.set v162 r365.toNat (o370.1, o370.2)) (w64 (r365 - 1)).toNat (o373.1, o373.2))
     else none
    else none
 else
  some (.inr v162)
 partial_fixpoint
def F115 (p0 : List I2) (p1 p2 : Int) : Option (Bool × (List I2)) :=
 F115l0 p1 p2 (w64 (p1 + 1)) 0 p0 >>= fun r489 =>
 match r489 with
 | .inl o491 =>
  some (o491.2, o491.1)
 | .inr o492 =>
  some (false, o492)
def P115l1 (p1 p2 v161 : Int) (v162 : List I2) (r : Int) : Post := fun e a h => e = .exit 2 ∧ Wk Pg 0 1 a h (st 141 [(0, anyV 0 v162.length), (1, iv p1), (2, iv p2), (3, fn 87), (9, iv r), (10, iv v161)]) [lb101 v162]
theorem L115l1 (p1 p2 v161 : Int) (v162 : List I2) (v341 r : Int) (hF : F115l1 p1 p2 v161 v162 v341 = some r) : TL Pg 0 1 c115.s2.s2.s1.s2.bd.bd.s2.s1.bd.s1.bd.bd (st 141 [(0, anyV 0 v162.length), (1, iv p1), (2, iv p2), (3, fn 87), (9, iv v341), (10, iv v161)]) [lb101 v162] (P115l1 p1 p2 v161 v162 r) := by
 refine F115l1.partial_correctness p1 p2 v161 v162 (motive := fun v341 r => TL Pg 0 1 c115.s2.s2.s1.s2.bd.bd.s2.s1.bd.s1.bd.bd (st 141 [(0, anyV 0 v162.length), (1, iv p1), (2, iv p2), (3, fn 87), (9, iv v341), (10, iv v161)]) [lb101 v162] (P115l1 p1 p2 v161 v162 r)) ?_ v341 r hF
 clear hF r v341
 intro again ih v341 r hF
 refine TL.round (TS.sq (TS.sq ?_))
 obtain ⟨m363, hm364, hF⟩ := of_do hF
 have hK : NX Pg 0 1 [.sq c115.s2.s2.s1.s2.bd.bd.s2.s1.bd.s1.bd.bd.s1.s2, .sq c115.s2.s2.s1.s2.bd.bd.s2.s1.bd.s1.bd.bd.s2] (Rd Pg 0 1 c115.s2.s2.s1.s2.bd.bd.s2.s1.bd.s1.bd.bd (P115l1 p1 p2 v161 v162 r)) .normal (st 141 [(0, anyV 0 v162.length), (1, iv p1), (2, iv p2), (3, fn 87), (9, iv v341), (10, iv v161), (36, .bool m363)]) [lb101 v162] := by
  refine NX.sq ?_
  cases m363 with
  | true =>
   replace hF := of_pos hF rfl
   refine TS.cdT (.tmp 36) (TS.sk (NX.sq (TS.bk 3 (TS.rg (TI.ra 3 [0, 1, 2, 3, 9, 10] (st 141 [(0, anyV 0 v162.length), (1, iv p1), (2, iv p2), (3, fn 87), (9, iv (w64 (v341 + 1))), (10, iv v161)]) (TI.dn (NX.bk ?_)))))))
   exact Rd.again (a2 := (st 141 [(0, anyV 0 v162.length), (1, iv p1), (2, iv p2), (3, fn 87), (9, iv (w64 (v341 + 1))), (10, iv v161)])) (h2 := [lb101 v162]) (Wk.an [] Ats.l [anyV 0 v162.length, iv p1, iv p2, fn 87, iv (w64 (v341 + 1)), iv v161] (.cons rav (.fl (.fl (.cons (Rn.func' .nil .nil) (.fl (.fl .nil))))))) (ih (w64 (v341 + 1)) _ hF)
  | false =>
   replace hF := of_neg hF rfl
   refine TS.cdF (.tmp 36) (TS.ex 2 (NX.sqX ?_))
   have hF := sj hF
   subst hF
   exact Rd.out (e := .exit 2) (by intro h; cases h) (And.intro rfl (Wk.an [] Ats.l [anyV 0 v162.length, iv p1, iv p2, fn 87, iv v341, iv v161] (.cons rav (.fl (.fl (.cons (Rn.func' .nil .nil) (.fl (.fl .nil))))))))
 rcases Bool.eq_false_or_eq_true (decide (v341 < p2)) with hc354 | hc354
 · replace hm364 := of_pos hm364 hc354
   obtain ⟨hg355, hm364⟩ := of_guard hm364
   obtain ⟨o356, h357, hm364⟩ := of_do hm364
   replace h357 := sj h357
   obtain ⟨hg358, hm364⟩ := of_guard hm364
   obtain ⟨o359, h360, hm364⟩ := of_do hm364
   replace h360 := sj h360
   obtain ⟨r361, h362, hm364⟩ := of_do hm364
   have hm364 := sj hm364
   subst hm364
   have hT : ∀ e ∈ ([⟨87, [ag [iv o356.1, iv o356.2], ag [iv o359.1, iv o359.2]], [lb101 v162], iv r361, []⟩] : List Entry), PureSim Pg e.g e.args e.h e.v e.new := by
    intro e he
    simp only [List.mem_cons, List.not_mem_nil, or_false] at he
    rcases he with rfl
    exact PureSim.ak (C87 _ _ _ _ _ h362)
   refine TS.dp [⟨87, [ag [iv o356.1, iv o356.2], ag [iv o359.1, iv o359.2]], [lb101 v162], iv r361, []⟩] hT mixed 14 [0, 1, 2, 3, 9, 10, 36] [0] (st 141 [(0, anyV 0 v162.length), (1, iv p1), (2, iv p2), (3, fn 87), (9, iv v341), (10, iv v161), (36, .bool (!(decide (r361 < 0))))]) [lb101 v162] ?_ ?_
   · refine QJ.rn (qs (st 141 [(0, anyV 0 v162.length), (1, iv p1), (2, iv p2), (3, fn 87), (9, iv v341), (10, iv v161), (19, iv v341), (20, iv p2)]) [lb101 v162] [] []) 2 (QJ.o { val := .bool true } (q_conv (e := decide (v341 < p2)) (b := true) (by kernel_rfl) hc354) (QJ.rn (qs (st 141 [(0, anyV 0 v162.length), (1, iv p1), (2, iv p2), (3, fn 87), (9, iv v341), (10, iv v161), (19, iv v341), (20, iv p2), (21, .bool true), (22, .bool true), (23, fn 87), (24, anyV 0 v162.length), (25, iv v341)]) [lb101 v162] [] []) 4 (QJ.o { val := pt 0 (0 + v341.toNat * 2) } (q_ixS 0 0 (v341.toNat * 2) (by kernel_rfl) hg355) (QJ.o { val := ag [iv o356.1, iv o356.2] } (q_nA Pg [lb101 v162] 101 0 (0 + v341.toNat * 2) v162 e101 2 101 v341.toNat (0, 0) h357) (QJ.rn (qs (st 141 [(0, anyV 0 v162.length), (1, iv p1), (2, iv p2), (3, fn 87), (9, iv v341), (10, iv v161), (19, iv v341), (20, iv p2), (21, .bool true), (22, .bool true), (23, fn 87), (24, anyV 0 v162.length), (25, iv v341), (26, pt 0 (0 + v341.toNat * 2)), (27, ag [iv o356.1, iv o356.2]), (28, anyV 0 v162.length), (29, iv v341), (30, iv (w64 (v341 - 1)))]) [lb101 v162] [] []) 3 (QJ.o { val := pt 0 (0 + (w64 (v341 - 1)).toNat * 2) } (q_ixS 0 0 ((w64 (v341 - 1)).toNat * 2) (by kernel_rfl) hg358) (QJ.o { val := ag [iv o359.1, iv o359.2] } (q_nA Pg [lb101 v162] 101 0 (0 + (w64 (v341 - 1)).toNat * 2) v162 e101 2 101 (w64 (v341 - 1)).toNat (0, 0) h360) (QJ.dn ⟨rfl, ?_⟩))))))))
     exact SJ.o { val := iv r361, new := [] } (qOf_call (g := 87) (args := [ag [iv o356.1, iv o356.2], ag [iv o359.1, iv o359.2]]) (by kernel_rfl) lookC_hit) SJ.la
   exact hK
 replace hm364 := of_neg hm364 hc354
 have hm364 := sj hm364
 subst hm364
 refine TS.dp [] (fun e he => by cases he) mixed 14 [0, 1, 2, 3, 9, 10, 36] [0] (st 141 [(0, anyV 0 v162.length), (1, iv p1), (2, iv p2), (3, fn 87), (9, iv v341), (10, iv v161), (36, .bool false)]) [lb101 v162] ?_ ?_
 · exact QJ.rn (qs (st 141 [(0, anyV 0 v162.length), (1, iv p1), (2, iv p2), (3, fn 87), (9, iv v341), (10, iv v161), (19, iv v341), (20, iv p2)]) [lb101 v162] [] []) 2 (QJ.o { val := .bool false } (q_conv (e := decide (v341 < p2)) (b := false) (by kernel_rfl) hc354) (QJ.rn (qs (st 141 [(0, anyV 0 v162.length), (1, iv p1), (2, iv p2), (3, fn 87), (9, iv v341), (10, iv v161), (19, iv v341), (20, iv p2), (21, .bool false), (22, .bool false), (23, undef), (24, undef), (25, undef), (26, undef), (27, undef), (28, undef), (29, undef), (30, undef), (31, undef), (32, undef)]) [lb101 v162] [] []) 11 (QJ.dn ⟨rfl, SJ.la⟩)))
 exact hK
def P115l2 (p1 p2 r365 v161 : Int) (r : List I2) : Post := fun e a h => e = .exit 4 ∧ Wk Pg 0 1 a h (st 141 [(0, anyV 0 r.length), (1, iv p1), (2, iv p2), (3, fn 87), (9, iv r365), (10, iv v161)]) [lb101 r]
theorem L115l2 (p1 p2 r365 v161 v386 : Int) (v387 r : List I2) (hF : F115l2 p1 p2 r365 v161 v386 v387 = some r) : TL Pg 0 1 c115.s2.s2.s1.s2.bd.bd.s2.s1.bd.s2.s2.s2.s2.s1.s2.th.s2.bd.bd (st 141 [(0, anyV 0 v387.length), (1, iv p1), (2, iv p2), (3, fn 87), (9, iv r365), (10, iv v161), (11, iv v386)]) [lb101 v387] (P115l2 p1 p2 r365 v161 r) := by
 refine F115l2.partial_correctness p1 p2 r365 v161 (motive := fun v386 v387 r => TL Pg 0 1 c115.s2.s2.s1.s2.bd.bd.s2.s1.bd.s2.s2.s2.s2.s1.s2.th.s2.bd.bd (st 141 [(0, anyV 0 v387.length), (1, iv p1), (2, iv p2), (3, fn 87), (9, iv r365), (10, iv v161), (11, iv v386)]) [lb101 v387] (P115l2 p1 p2 r365 v161 r)) ?_ v386 v387 r hF
 clear hF r v386 v387
 intro again ih v386 v387 r hF
 refine TL.round (TS.sq (TS.sq (TS.rg (TI.ra 2 [0, 1, 2, 3, 9, 10, 11, 69] (st 141 [(0, anyV 0 v387.length), (1, iv p1), (2, iv p2), (3, fn 87), (9, iv r365), (10, iv v161), (11, iv v386), (69, .bool (decide (v386 ≥ 1)))]) (TI.dq ?_)))))
 refine TS.cd (.tmp 69) (decide (v386 ≥ 1)) (fun hc400 => ?_) (fun hc400 => ?_)
 · replace hF := of_pos hF hc400
   refine TS.sk (NX.sq (TS.sq (TS.bk 5 (TS.sq (TS.sq ?_)))))
   obtain ⟨hg401, hF⟩ := of_guard hF
   obtain ⟨o402, h403, hF⟩ := of_do hF
   replace h403 := sj h403
   obtain ⟨hg404, hF⟩ := of_guard hF
   obtain ⟨o405, h406, hF⟩ := of_do hF
   replace h406 := sj h406
   obtain ⟨r407, h408, hF⟩ := of_do hF
   have hT : ∀ e ∈ ([⟨87, [ag [iv o402.1, iv o402.2], ag [iv o405.1, iv o405.2]], [lb101 v387], iv r407, []⟩] : List Entry), PureSim Pg e.g e.args e.h e.v e.new := by
    intro e he
    simp only [List.mem_cons, List.not_mem_nil, or_false] at he
    rcases he with rfl
    exact PureSim.ak (C87 _ _ _ _ _ h408)
   refine TS.dp [⟨87, [ag [iv o402.1, iv o402.2], ag [iv o405.1, iv o405.2]], [lb101 v387], iv r407, []⟩] hT mixed 10 [0, 1, 2, 3, 9, 10, 11, 84] [0] (st 141 [(0, anyV 0 v387.length), (1, iv p1), (2, iv p2), (3, fn 87), (9, iv r365), (10, iv v161), (11, iv v386), (84, .bool (!(decide (r407 < 0))))]) [lb101 v387] ?_ ?_
   · exact QJ.rn (qs (st 141 [(0, anyV 0 v387.length), (1, iv p1), (2, iv p2), (3, fn 87), (9, iv r365), (10, iv v161), (11, iv v386), (69, .bool (decide (v386 ≥ 1))), (72, fn 87), (73, anyV 0 v387.length), (74, iv v386)]) [lb101 v387] [] []) 3 (QJ.o { val := pt 0 (0 + v386.toNat * 2) } (q_ixS 0 0 (v386.toNat * 2) (by kernel_rfl) hg401) (QJ.o { val := ag [iv o402.1, iv o402.2] } (q_nA Pg [lb101 v387] 101 0 (0 + v386.toNat * 2) v387 e101 2 101 v386.toNat (0, 0) h403) (QJ.rn (qs (st 141 [(0, anyV 0 v387.length), (1, iv p1), (2, iv p2), (3, fn 87), (9, iv r365), (10, iv v161), (11, iv v386), (69, .bool (decide (v386 ≥ 1))), (72, fn 87), (73, anyV 0 v387.length), (74, iv v386), (75, pt 0 (0 + v386.toNat * 2)), (76, ag [iv o402.1, iv o402.2]), (77, anyV 0 v387.length), (78, iv v386), (79, iv (w64 (v386 - 1)))]) [lb101 v387] [] []) 3 (QJ.o { val := pt 0 (0 + (w64 (v386 - 1)).toNat * 2) } (q_ixS 0 0 ((w64 (v386 - 1)).toNat * 2) (by kernel_rfl) hg404) (QJ.o { val := ag [iv o405.1, iv o405.2] } (q_nA Pg [lb101 v387] 101 0 (0 + (w64 (v386 - 1)).toNat * 2) v387 e101 2 101 (w64 (v386 - 1)).toNat (0, 0) h406) (QJ.dn ⟨rfl, (SJ.o { val := iv r407, new := [] } (qOf_call (g := 87) (args := [ag [iv o402.1, iv o402.2], ag [iv o405.1, iv o405.2]]) (by kernel_rfl) lookC_hit) SJ.la)⟩))))))
   refine TS.cd (.tmp 84) (!(decide (r407 < 0))) (fun hc410 => ?_) (fun hc410 => ?_)
   · replace hF := of_pos hF hc410
     refine TS.ex 4 (NX.sqX (NX.bkY rfl (NX.sqX ?_)))
     have hF := sj hF
     subst hF
     exact Rd.out (e := .exit 4) (by intro h; cases h) (And.intro rfl (Wk.an [] Ats.l [anyV 0 v387.length, iv p1, iv p2, fn 87, iv r365, iv v161] (.cons rav (.fl (.fl (.cons (Rn.func' .nil .nil) (.fl (.fl .nil))))))))
   replace hF := of_neg hF hc410
   refine TS.sk (NX.sq ?_)
   refine TS.drawE (id := 17) (b := true) (ops := c115.s2.s2.s1.s2.bd.bd.s2.s1.bd.s2.s2.s2.s2.s1.s2.th.s2.bd.bd.s2.s1.bd.s2.rops) (fin := (qs (S115_6 v387 p1 p2 r365 v161 v386 r407 o405 o402) (H115_37 v387 v386 o405) [] [(15, 0)])) (fin2 := (qs (S115_6 v387 p1 p2 r365 v161 v386 r407 o405 o402) (H115_37 v387 v386 o405) [] [(15, 0)])) (a1 := (S115_2 v387 p1 p2 r365 v161 v386 r407 o405 o402)) (h1 := (H115_32 v387 v386 o405 o402)) [] (fun e he => by cases he) mixed (by kernel_rfl) rfl 16 (by kernel_rfl) [(15, 0)] ?_ rfl (.inr ⟨?_, (by kernel_rfl)⟩) ?_ ?_
   iterate 2
    · refine QI.r (qs (S115_30 v387 p1 p2 r365 v161 v386 r407) [lb101 v387] [] []) 8 (QI.o { val := pt 0 (0 + (w64 (v386 - 1)).toNat * 2) } (qs (S115_26 v387 p1 p2 r365 v161 v386 r407) [lb101 v387] [] []) (q_ixS 0 0 ((w64 (v386 - 1)).toNat * 2) (by kernel_rfl) hg404) (QI.o { val := ag [iv o405.1, iv o405.2] } (qs (S115_22 v387 p1 p2 r365 v161 v386 r407 o405) [lb101 v387] [] []) (q_nA Pg [lb101 v387] 101 0 (0 + (w64 (v386 - 1)).toNat * 2) v387 e101 2 101 (w64 (v386 - 1)).toNat (0, 0) h406) (QI.r (qs (S115_18 v387 p1 p2 r365 v161 v386 r407 o405) [lb101 v387] [] []) 2 (QI.o { val := pt 0 (0 + v386.toNat * 2) } (qs (S115_14 v387 p1 p2 r365 v161 v386 r407 o405) [lb101 v387] [] []) (q_ixS 0 0 (v386.toNat * 2) (by kernel_rfl) hg401) (QI.o { val := ag [iv o402.1, iv o402.2] } (qs (S115_10 v387 p1 p2 r365 v161 v386 r407 o405 o402) [lb101 v387] [] []) (q_nA Pg [lb101 v387] 101 0 (0 + v386.toNat * 2) v387 e101 2 101 v386.toNat (0, 0) h403) (QI.o { val := pt 0 (0 + v386.toNat * 2) } (qs (S115_6 v387 p1 p2 r365 v161 v386 r407 o405 o402) [lb101 v387] [] []) (q_ixS 0 0 (v386.toNat * 2) (by kernel_rfl) hg401) ?_))))))
      exact QI.o { val := undef, upd := some (0, lb101 (List.set v387 v386.toNat (o405.1, o405.2))) } (qs (S115_6 v387 p1 p2 r365 v161 v386 r407 o405 o402) (H115_37 v387 v386 o405) [] [(15, 0)]) (q_stP Pg 0 [lb101 v387] 101 0 (0 + v386.toNat * 2) v387 e101 2 101 v386.toNat 0 2 (ag [iv o405.1, iv o405.2]) [iv o405.1, iv o405.2] (0, 0) (o405.1, o405.2) (by first | omega | (simp <;> omega))) (QI.done (by kernel_rfl))
   · refine SI.o { val := pt 0 (0 + (w64 (v386 - 1)).toNat * 2) } (S115_2 v387 p1 p2 r365 v161 v386 r407 o405 o402) (H115_37 v387 v386 o405) (q_ixS 0 0 ((w64 (v386 - 1)).toNat * 2) (by kernel_rfl) hg404) ?_
     exact SI.o { val := undef, upd := some (0, lb101 (List.set (List.set v387 v386.toNat (o405.1, o405.2)) (w64 (v386 - 1)).toNat (o402.1, o402.2))) } (S115_2 v387 p1 p2 r365 v161 v386 r407 o405 o402) (H115_32 v387 v386 o405 o402) (q_stP Pg 0 (H115_37 v387 v386 o405) 101 0 (0 + (w64 (v386 - 1)).toNat * 2) (List.set v387 v386.toNat (o405.1, o405.2)) e101 2 101 (w64 (v386 - 1)).toNat 0 2 (ag [iv o402.1, iv o402.2]) [iv o402.1, iv o402.2] (0, 0) (o402.1, o402.2) (by first | omega | (simp <;> omega))) (SI.done (by kernel_rfl))
   refine NX.bk (NX.sq (TS.rg (TI.ra 3 [0, 1, 2, 3, 9, 10, 11] (st 141 [(0, anyV 0 v387.length), (1, iv p1), (2, iv p2), (3, fn 87), (9, iv r365), (10, iv v161), (11, iv (w64 (v386 - 1)))]) (TI.dn ?_))))
   exact Rd.again (a2 := (st 141 [(0, anyV 0 (List.length (List.set (List.set v387 v386.toNat (o405.1, o405.2)) (w64 (v386 - 1)).toNat (o402.1, o402.2)))), (1, iv p1), (2, iv p2), (3, fn 87), (9, iv r365), (10, iv v161), (11, iv (w64 (v386 - 1)))])) (h2 := (H115_32 v387 v386 o405 o402)) (Wk.an [] Ats.l [anyV 0 v387.length, iv p1, iv p2, fn 87, iv r365, iv v161, iv (w64 (v386 - 1))] (.cons rav (.fl (.fl (.cons (Rn.func' .nil .nil) (.fl (.fl (.fl .nil)))))))) (ih (w64 (v386 - 1)) (List.set (List.set v387 v386.toNat (o405.1, o405.2)) (w64 (v386 - 1)).toNat (o402.1, o402.2)) _ hF)
 replace hF := of_neg hF hc400
 refine TS.ex 4 (NX.sqX ?_)
 have hF := sj hF
 subst hF
 exact Rd.out (e := .exit 4) (by intro h; cases h) (And.intro rfl (Wk.an [] Ats.l [anyV 0 v387.length, iv p1, iv p2, fn 87, iv r365, iv v161] (.cons rav (.fl (.fl (.cons (Rn.func' .nil .nil) (.fl (.fl .nil))))))))
def P115l3 (p1 p2 r365 v161 : Int) (r : List I2) : Post := fun e a h => e = .exit 6 ∧ Wk Pg 0 1 a h (st 141 [(0, anyV 0 r.length), (1, iv p1), (2, iv p2), (3, fn 87), (9, iv r365), (10, iv v161)]) [lb101 r]
theorem L115l3 (p1 p2 r365 v161 v424 : Int) (v425 r : List I2) (hF : F115l3 p1 p2 r365 v161 v424 v425 = some r) : TL Pg 0 1 c115.s2.s2.s1.s2.bd.bd.s2.s1.bd.s2.s2.s2.s2.s2.s2.th.s2.bd.bd (st 141 [(0, anyV 0 v425.length), (1, iv p1), (2, iv p2), (3, fn 87), (9, iv r365), (10, iv v161), (12, iv v424)]) [lb101 v425] (P115l3 p1 p2 r365 v161 r) := by
 refine F115l3.partial_correctness p1 p2 r365 v161 (motive := fun v424 v425 r => TL Pg 0 1 c115.s2.s2.s1.s2.bd.bd.s2.s1.bd.s2.s2.s2.s2.s2.s2.th.s2.bd.bd (st 141 [(0, anyV 0 v425.length), (1, iv p1), (2, iv p2), (3, fn 87), (9, iv r365), (10, iv v161), (12, iv v424)]) [lb101 v425] (P115l3 p1 p2 r365 v161 r)) ?_ v424 v425 r hF
 clear hF r v424 v425
 intro again ih v424 v425 r hF
 refine TL.round (TS.sq (TS.sq (TS.rg (TI.ra 3 [0, 1, 2, 3, 9, 10, 12, 109] (st 141 [(0, anyV 0 v425.length), (1, iv p1), (2, iv p2), (3, fn 87), (9, iv r365), (10, iv v161), (12, iv v424), (109, .bool (decide (v424 < p2)))]) (TI.dq ?_)))))
 refine TS.cd (.tmp 109) (decide (v424 < p2)) (fun hc438 => ?_) (fun hc438 => ?_)
 · replace hF := of_pos hF hc438
   refine TS.sk (NX.sq (TS.sq (TS.bk 7 (TS.sq (TS.sq ?_)))))
   obtain ⟨hg439, hF⟩ := of_guard hF
   obtain ⟨o440, h441, hF⟩ := of_do hF
   replace h441 := sj h441
   obtain ⟨hg442, hF⟩ := of_guard hF
   obtain ⟨o443, h444, hF⟩ := of_do hF
   replace h444 := sj h444
   obtain ⟨r445, h446, hF⟩ := of_do hF
   have hT : ∀ e ∈ ([⟨87, [ag [iv o440.1, iv o440.2], ag [iv o443.1, iv o443.2]], [lb101 v425], iv r445, []⟩] : List Entry), PureSim Pg e.g e.args e.h e.v e.new := by
    intro e he
    simp only [List.mem_cons, List.not_mem_nil, or_false] at he
    rcases he with rfl
    exact PureSim.ak (C87 _ _ _ _ _ h446)
   refine TS.dp [⟨87, [ag [iv o440.1, iv o440.2], ag [iv o443.1, iv o443.2]], [lb101 v425], iv r445, []⟩] hT mixed 10 [0, 1, 2, 3, 9, 10, 12, 124] [0] (st 141 [(0, anyV 0 v425.length), (1, iv p1), (2, iv p2), (3, fn 87), (9, iv r365), (10, iv v161), (12, iv v424), (124, .bool (!(decide (r445 < 0))))]) [lb101 v425] ?_ ?_
   · exact QJ.rn (qs (st 141 [(0, anyV 0 v425.length), (1, iv p1), (2, iv p2), (3, fn 87), (9, iv r365), (10, iv v161), (12, iv v424), (109, .bool (decide (v424 < p2))), (112, fn 87), (113, anyV 0 v425.length), (114, iv v424)]) [lb101 v425] [] []) 3 (QJ.o { val := pt 0 (0 + v424.toNat * 2) } (q_ixS 0 0 (v424.toNat * 2) (by kernel_rfl) hg439) (QJ.o { val := ag [iv o440.1, iv o440.2] } (q_nA Pg [lb101 v425] 101 0 (0 + v424.toNat * 2) v425 e101 2 101 v424.toNat (0, 0) h441) (QJ.rn (qs (st 141 [(0, anyV 0 v425.length), (1, iv p1), (2, iv p2), (3, fn 87), (9, iv r365), (10, iv v161), (12, iv v424), (109, .bool (decide (v424 < p2))), (112, fn 87), (113, anyV 0 v425.length), (114, iv v424), (115, pt 0 (0 + v424.toNat * 2)), (116, ag [iv o440.1, iv o440.2]), (117, anyV 0 v425.length), (118, iv v424), (119, iv (w64 (v424 - 1)))]) [lb101 v425] [] []) 3 (QJ.o { val := pt 0 (0 + (w64 (v424 - 1)).toNat * 2) } (q_ixS 0 0 ((w64 (v424 - 1)).toNat * 2) (by kernel_rfl) hg442) (QJ.o { val := ag [iv o443.1, iv o443.2] } (q_nA Pg [lb101 v425] 101 0 (0 + (w64 (v424 - 1)).toNat * 2) v425 e101 2 101 (w64 (v424 - 1)).toNat (0, 0) h444) (QJ.dn ⟨rfl, (SJ.o { val := iv r445, new := [] } (qOf_call (g := 87) (args := [ag [iv o440.1, iv o440.2], ag [iv o443.1, iv o443.2]]) (by kernel_rfl) lookC_hit) SJ.la)⟩))))))
   refine TS.cd (.tmp 124) (!(decide (r445 < 0))) (fun hc448 => ?_) (fun hc448 => ?_)
   · replace hF := of_pos hF hc448
     refine TS.ex 6 (NX.sqX (NX.bkY rfl (NX.sqX ?_)))
     have hF := sj hF
     subst hF
     exact Rd.out (e := .exit 6) (by intro h; cases h) (And.intro rfl (Wk.an [] Ats.l [anyV 0 v425.length, iv p1, iv p2, fn 87, iv r365, iv v161] (.cons rav (.fl (.fl (.cons (Rn.func' .nil .nil) (.fl (.fl .nil))))))))
   replace hF := of_neg hF hc448
   refine TS.sk (NX.sq ?_)
   refine TS.drawE (id := 23) (b := true) (ops := c115.s2.s2.s1.s2.bd.bd.s2.s1.bd.s2.s2.s2.s2.s2.s2.th.s2.bd.bd.s2.s1.bd.s2.rops) (fin := (qs (S115_4 v425 p1 p2 r365 v161 v424 r445 o443 o440) (H115_38 v425 v424 o443) [] [(15, 0)])) (fin2 := (qs (S115_4 v425 p1 p2 r365 v161 v424 r445 o443 o440) (H115_38 v425 v424 o443) [] [(15, 0)])) (a1 := (S115_0 v425 p1 p2 r365 v161 v424 r445 o443 o440)) (h1 := (H115_33 v425 v424 o443 o440)) [] (fun e he => by cases he) mixed (by kernel_rfl) rfl 16 (by kernel_rfl) [(15, 0)] ?_ rfl (.inr ⟨?_, (by kernel_rfl)⟩) ?_ ?_
   iterate 2
    · refine QI.r (qs (S115_28 v425 p1 p2 r365 v161 v424 r445) [lb101 v425] [] []) 8 (QI.o { val := pt 0 (0 + (w64 (v424 - 1)).toNat * 2) } (qs (S115_24 v425 p1 p2 r365 v161 v424 r445) [lb101 v425] [] []) (q_ixS 0 0 ((w64 (v424 - 1)).toNat * 2) (by kernel_rfl) hg442) (QI.o { val := ag [iv o443.1, iv o443.2] } (qs (S115_20 v425 p1 p2 r365 v161 v424 r445 o443) [lb101 v425] [] []) (q_nA Pg [lb101 v425] 101 0 (0 + (w64 (v424 - 1)).toNat * 2) v425 e101 2 101 (w64 (v424 - 1)).toNat (0, 0) h444) (QI.r (qs (S115_16 v425 p1 p2 r365 v161 v424 r445 o443) [lb101 v425] [] []) 2 (QI.o { val := pt 0 (0 + v424.toNat * 2) } (qs (S115_12 v425 p1 p2 r365 v161 v424 r445 o443) [lb101 v425] [] []) (q_ixS 0 0 (v424.toNat * 2) (by kernel_rfl) hg439) (QI.o { val := ag [iv o440.1, iv o440.2] } (qs (S115_8 v425 p1 p2 r365 v161 v424 r445 o443 o440) [lb101 v425] [] []) (q_nA Pg [lb101 v425] 101 0 (0 + v424.toNat * 2) v425 e101 2 101 v424.toNat (0, 0) h441) (QI.o { val := pt 0 (0 + v424.toNat * 2) } (qs (S115_4 v425 p1 p2 r365 v161 v424 r445 o443 o440) [lb101 v425] [] []) (q_ixS 0 0 (v424.toNat * 2) (by kernel_rfl) hg439) ?_))))))
      exact QI.o { val := undef, upd := some (0, lb101 (List.set v425 v424.toNat (o443.1, o443.2))) } (qs (S115_4 v425 p1 p2 r365 v161 v424 r445 o443 o440) (H115_38 v425 v424 o443) [] [(15, 0)]) (q_stP Pg 0 [lb101 v425] 101 0 (0 + v424.toNat * 2) v425 e101 2 101 v424.toNat 0 2 (ag [iv o443.1, iv o443.2]) [iv o443.1, iv o443.2] (0, 0) (o443.1, o443.2) (by first | omega | (simp <;> omega))) (QI.done (by kernel_rfl))
   · refine SI.o { val := pt 0 (0 + (w64 (v424 - 1)).toNat * 2) } (S115_0 v425 p1 p2 r365 v161 v424 r445 o443 o440) (H115_38 v425 v424 o443) (q_ixS 0 0 ((w64 (v424 - 1)).toNat * 2) (by kernel_rfl) hg442) ?_
     exact SI.o { val := undef, upd := some (0, lb101 (List.set (List.set v425 v424.toNat (o443.1, o443.2)) (w64 (v424 - 1)).toNat (o440.1, o440.2))) } (S115_0 v425 p1 p2 r365 v161 v424 r445 o443 o440) (H115_33 v425 v424 o443 o440) (q_stP Pg 0 (H115_38 v425 v424 o443) 101 0 (0 + (w64 (v424 - 1)).toNat * 2) (List.set v425 v424.toNat (o443.1, o443.2)) e101 2 101 (w64 (v424 - 1)).toNat 0 2 (ag [iv o440.1, iv o440.2]) [iv o440.1, iv o440.2] (0, 0) (o440.1, o440.2) (by first | omega | (simp <;> omega))) (SI.done (by kernel_rfl))
   refine NX.bk (NX.sq (TS.rg (TI.ra 3 [0, 1, 2, 3, 9, 10, 12] (st 141 [(0, anyV 0 v425.length), (1, iv p1), (2, iv p2), (3, fn 87), (9, iv r365), (10, iv v161), (12, iv (w64 (v424 + 1)))]) (TI.dn ?_))))
   exact Rd.again (a2 := (st 141 [(0, anyV 0 (List.length (List.set (List.set v425 v424.toNat (o443.1, o443.2)) (w64 (v424 - 1)).toNat (o440.1, o440.2)))), (1, iv p1), (2, iv p2), (3, fn 87), (9, iv r365), (10, iv v161), (12, iv (w64 (v424 + 1)))])) (h2 := (H115_33 v425 v424 o443 o440)) (Wk.an [] Ats.l [anyV 0 v425.length, iv p1, iv p2, fn 87, iv r365, iv v161, iv (w64 (v424 + 1))] (.cons rav (.fl (.fl (.cons (Rn.func' .nil .nil) (.fl (.fl (.fl .nil)))))))) (ih (w64 (v424 + 1)) (List.set (List.set v425 v424.toNat (o443.1, o443.2)) (w64 (v424 - 1)).toNat (o440.1, o440.2)) _ hF)
 replace hF := of_neg hF hc438
 refine TS.ex 6 (NX.sqX ?_)
 have hF := sj hF
 subst hF
 exact Rd.out (e := .exit 6) (by intro h; cases h) (And.intro rfl (Wk.an [] Ats.l [anyV 0 v425.length, iv p1, iv p2, fn 87, iv r365, iv v161] (.cons rav (.fl (.fl (.cons (Rn.func' .nil .nil) (.fl (.fl .nil))))))))
def P115l4 (p1 p2 r365 v161 : Int) (r : List I2) : Post := fun e a h => e = .exit 6 ∧ Wk Pg 0 1 a h (st 141 [(0, anyV 0 r.length), (1, iv p1), (2, iv p2), (3, fn 87), (9, iv r365), (10, iv v161)]) [lb101 r]
theorem L115l4 (p1 p2 r365 v161 v462 : Int) (v463 r : List I2) (hF : F115l4 p1 p2 r365 v161 v462 v463 = some r) : TL Pg 0 1 c115.s2.s2.s1.s2.bd.bd.s2.s1.bd.s2.s2.s2.s2.s2.s2.th.s2.bd.bd (st 141 [(0, anyV 0 v463.length), (1, iv p1), (2, iv p2), (3, fn 87), (9, iv r365), (10, iv v161), (12, iv v462)]) [lb101 v463] (P115l4 p1 p2 r365 v161 r) := by
 refine F115l4.partial_correctness p1 p2 r365 v161 (motive := fun v462 v463 r => TL Pg 0 1 c115.s2.s2.s1.s2.bd.bd.s2.s1.bd.s2.s2.s2.s2.s2.s2.th.s2.bd.bd (st 141 [(0, anyV 0 v463.length), (1, iv p1), (2, iv p2), (3, fn 87), (9, iv r365), (10, iv v161), (12, iv v462)]) [lb101 v463] (P115l4 p1 p2 r365 v161 r)) ?_ v462 v463 r hF
 clear hF r v462 v463
 intro again ih v462 v463 r hF
 refine TL.round (TS.sq (TS.sq (TS.rg (TI.ra 3 [0, 1, 2, 3, 9, 10, 12, 109] (st 141 [(0, anyV 0 v463.length), (1, iv p1), (2, iv p2), (3, fn 87), (9, iv r365), (10, iv v161), (12, iv v462), (109, .bool (decide (v462 < p2)))]) (TI.dq ?_)))))
 refine TS.cd (.tmp 109) (decide (v462 < p2)) (fun hc476 => ?_) (fun hc476 => ?_)
 · replace hF := of_pos hF hc476
   refine TS.sk (NX.sq (TS.sq (TS.bk 7 (TS.sq (TS.sq ?_)))))
   obtain ⟨hg477, hF⟩ := of_guard hF
   obtain ⟨o478, h479, hF⟩ := of_do hF
   replace h479 := sj h479
   obtain ⟨hg480, hF⟩ := of_guard hF
   obtain ⟨o481, h482, hF⟩ := of_do hF
   replace h482 := sj h482
   obtain ⟨r483, h484, hF⟩ := of_do hF
   have hT : ∀ e ∈ ([⟨87, [ag [iv o478.1, iv o478.2], ag [iv o481.1, iv o481.2]], [lb101 v463], iv r483, []⟩] : List Entry), PureSim Pg e.g e.args e.h e.v e.new := by
    intro e he
    simp only [List.mem_cons, List.not_mem_nil, or_false] at he
    rcases he with rfl
    exact PureSim.ak (C87 _ _ _ _ _ h484)
   refine TS.dp [⟨87, [ag [iv o478.1, iv o478.2], ag [iv o481.1, iv o481.2]], [lb101 v463], iv r483, []⟩] hT mixed 10 [0, 1, 2, 3, 9, 10, 12, 124] [0] (st 141 [(0, anyV 0 v463.length), (1, iv p1), (2, iv p2), (3, fn 87), (9, iv r365), (10, iv v161), (12, iv v462), (124, .bool (!(decide (r483 < 0))))]) [lb101 v463] ?_ ?_
   · exact QJ.rn (qs (st 141 [(0, anyV 0 v463.length), (1, iv p1), (2, iv p2), (3, fn 87), (9, iv r365), (10, iv v161), (12, iv v462), (109, .bool (decide (v462 < p2))), (112, fn 87), (113, anyV 0 v463.length), (114, iv v462)]) [lb101 v463] [] []) 3 (QJ.o { val := pt 0 (0 + v462.toNat * 2) } (q_ixS 0 0 (v462.toNat * 2) (by kernel_rfl) hg477) (QJ.o { val := ag [iv o478.1, iv o478.2] } (q_nA Pg [lb101 v463] 101 0 (0 + v462.toNat * 2) v463 e101 2 101 v462.toNat (0, 0) h479) (QJ.rn (qs (st 141 [(0, anyV 0 v463.length), (1, iv p1), (2, iv p2), (3, fn 87), (9, iv r365), (10, iv v161), (12, iv v462), (109, .bool (decide (v462 < p2))), (112, fn 87), (113, anyV 0 v463.length), (114, iv v462), (115, pt 0 (0 + v462.toNat * 2)), (116, ag [iv o478.1, iv o478.2]), (117, anyV 0 v463.length), (118, iv v462), (119, iv (w64 (v462 - 1)))]) [lb101 v463] [] []) 3 (QJ.o { val := pt 0 (0 + (w64 (v462 - 1)).toNat * 2) } (q_ixS 0 0 ((w64 (v462 - 1)).toNat * 2) (by kernel_rfl) hg480) (QJ.o { val := ag [iv o481.1, iv o481.2] } (q_nA Pg [lb101 v463] 101 0 (0 + (w64 (v462 - 1)).toNat * 2) v463 e101 2 101 (w64 (v462 - 1)).toNat (0, 0) h482) (QJ.dn ⟨rfl, (SJ.o { val := iv r483, new := [] } (qOf_call (g := 87) (args := [ag [iv o478.1, iv o478.2], ag [iv o481.1, iv o481.2]]) (by kernel_rfl) lookC_hit) SJ.la)⟩))))))
   refine TS.cd (.tmp 124) (!(decide (r483 < 0))) (fun hc486 => ?_) (fun hc486 => ?_)
   · replace hF := of_pos hF hc486
     refine TS.ex 6 (NX.sqX (NX.bkY rfl (NX.sqX ?_)))
     have hF := sj hF
     subst hF
     exact Rd.out (e := .exit 6) (by intro h; cases h) (And.intro rfl (Wk.an [] Ats.l [anyV 0 v463.length, iv p1, iv p2, fn 87, iv r365, iv v161] (.cons rav (.fl (.fl (.cons (Rn.func' .nil .nil) (.fl (.fl .nil))))))))
   replace hF := of_neg hF hc486
   refine TS.sk (NX.sq ?_)
   refine TS.drawE (id := 23) (b := true) (ops := c115.s2.s2.s1.s2.bd.bd.s2.s1.bd.s2.s2.s2.s2.s2.s2.th.s2.bd.bd.s2.s1.bd.s2.rops) (fin := (qs (S115_5 v463 p1 p2 r365 v161 v462 r483 o481 o478) (H115_39 v463 v462 o481) [] [(15, 0)])) (fin2 := (qs (S115_5 v463 p1 p2 r365 v161 v462 r483 o481 o478) (H115_39 v463 v462 o481) [] [(15, 0)])) (a1 := (S115_1 v463 p1 p2 r365 v161 v462 r483 o481 o478)) (h1 := (H115_34 v463 v462 o481 o478)) [] (fun e he => by cases he) mixed (by kernel_rfl) rfl 16 (by kernel_rfl) [(15, 0)] ?_ rfl (.inr ⟨?_, (by kernel_rfl)⟩) ?_ ?_
   iterate 2
    · refine QI.r (qs (S115_29 v463 p1 p2 r365 v161 v462 r483) [lb101 v463] [] []) 8 (QI.o { val := pt 0 (0 + (w64 (v462 - 1)).toNat * 2) } (qs (S115_25 v463 p1 p2 r365 v161 v462 r483) [lb101 v463] [] []) (q_ixS 0 0 ((w64 (v462 - 1)).toNat * 2) (by kernel_rfl) hg480) (QI.o { val := ag [iv o481.1, iv o481.2] } (qs (S115_21 v463 p1 p2 r365 v161 v462 r483 o481) [lb101 v463] [] []) (q_nA Pg [lb101 v463] 101 0 (0 + (w64 (v462 - 1)).toNat * 2) v463 e101 2 101 (w64 (v462 - 1)).toNat (0, 0) h482) (QI.r (qs (S115_17 v463 p1 p2 r365 v161 v462 r483 o481) [lb101 v463] [] []) 2 (QI.o { val := pt 0 (0 + v462.toNat * 2) } (qs (S115_13 v463 p1 p2 r365 v161 v462 r483 o481) [lb101 v463] [] []) (q_ixS 0 0 (v462.toNat * 2) (by kernel_rfl) hg477) (QI.o { val := ag [iv o478.1, iv o478.2] } (qs (S115_9 v463 p1 p2 r365 v161 v462 r483 o481 o478) [lb101 v463] [] []) (q_nA Pg [lb101 v463] 101 0 (0 + v462.toNat * 2) v463 e101 2 101 v462.toNat (0, 0) h479) (QI.o { val := pt 0 (0 + v462.toNat * 2) } (qs (S115_5 v463 p1 p2 r365 v161 v462 r483 o481 o478) [lb101 v463] [] []) (q_ixS 0 0 (v462.toNat * 2) (by kernel_rfl) hg477) ?_))))))
      exact QI.o { val := undef, upd := some (0, lb101 (List.set v463 v462.toNat (o481.1, o481.2))) } (qs (S115_5 v463 p1 p2 r365 v161 v462 r483 o481 o478) (H115_39 v463 v462 o481) [] [(15, 0)]) (q_stP Pg 0 [lb101 v463] 101 0 (0 + v462.toNat * 2) v463 e101 2 101 v462.toNat 0 2 (ag [iv o481.1, iv o481.2]) [iv o481.1, iv o481.2] (0, 0) (o481.1, o481.2) (by first | omega | (simp <;> omega))) (QI.done (by kernel_rfl))
   · refine SI.o { val := pt 0 (0 + (w64 (v462 - 1)).toNat * 2) } (S115_1 v463 p1 p2 r365 v161 v462 r483 o481 o478) (H115_39 v463 v462 o481) (q_ixS 0 0 ((w64 (v462 - 1)).toNat * 2) (by kernel_rfl) hg480) ?_
     exact SI.o { val := undef, upd := some (0, lb101 (List.set (List.set v463 v462.toNat (o481.1, o481.2)) (w64 (v462 - 1)).toNat (o478.1, o478.2))) } (S115_1 v463 p1 p2 r365 v161 v462 r483 o481 o478) (H115_34 v463 v462 o481 o478) (q_stP Pg 0 (H115_39 v463 v462 o481) 101 0 (0 + (w64 (v462 - 1)).toNat * 2) (List.set v463 v462.toNat (o481.1, o481.2)) e101 2 101 (w64 (v462 - 1)).toNat 0 2 (ag [iv o478.1, iv o478.2]) [iv o478.1, iv o478.2] (0, 0) (o478.1, o478.2) (by first | omega | (simp <;> omega))) (SI.done (by kernel_rfl))
   refine NX.bk (NX.sq (TS.rg (TI.ra 3 [0, 1, 2, 3, 9, 10, 12] (st 141 [(0, anyV 0 v463.length), (1, iv p1), (2, iv p2), (3, fn 87), (9, iv r365), (10, iv v161), (12, iv (w64 (v462 + 1)))]) (TI.dn ?_))))
   exact Rd.again (a2 := (st 141 [(0, anyV 0 (List.length (List.set (List.set v463 v462.toNat (o481.1, o481.2)) (w64 (v462 - 1)).toNat (o478.1, o478.2)))), (1, iv p1), (2, iv p2), (3, fn 87), (9, iv r365), (10, iv v161), (12, iv (w64 (v462 + 1)))])) (h2 := (H115_34 v463 v462 o481 o478)) (Wk.an [] Ats.l [anyV 0 v463.length, iv p1, iv p2, fn 87, iv r365, iv v161, iv (w64 (v462 + 1))] (.cons rav (.fl (.fl (.cons (Rn.func' .nil .nil) (.fl (.fl (.fl .nil)))))))) (ih (w64 (v462 + 1)) (List.set (List.set v463 v462.toNat (o481.1, o481.2)) (w64 (v462 - 1)).toNat (o478.1, o478.2)) _ hF)
 replace hF := of_neg hF hc476
 refine TS.ex 6 (NX.sqX ?_)
 have hF := sj hF
 subst hF
 exact Rd.out (e := .exit 6) (by intro h; cases h) (And.intro rfl (Wk.an [] Ats.l [anyV 0 v463.length, iv p1, iv p2, fn 87, iv r365, iv v161] (.cons rav (.fl (.fl (.cons (Rn.func' .nil .nil) (.fl (.fl .nil))))))))
def P115l0 (p1 p2 : Int) (r : ((List I2) × Bool) ⊕ (List I2)) : Post := fun e a h => (match r with | .inl q0 => e = .ret ∧ Wk Pg 0 1 a h (st 141 [(0, anyV 0 q0.1.length), (8, .bool q0.2)]) [lb101 q0.1] | .inr q0 => e = .exit 0 ∧ Wk Pg 0 1 a h (st 141 [(0, anyV 0 q0.length)]) [lb101 q0])
theorem L115l0 (p1 p2 v160 v161 : Int) (v162 : List I2) (r : ((List I2) × Bool) ⊕ (List I2)) (hF : F115l0 p1 p2 v160 v161 v162 = some r) : TL Pg 0 1 c115.s2.s2.s1.s2.bd.bd (S115_36 v162 p1 p2 v160 v161) [lb101 v162] (P115l0 p1 p2 r) := by
 refine F115l0.partial_correctness p1 p2 (motive := fun v160 v161 v162 r => TL Pg 0 1 c115.s2.s2.s1.s2.bd.bd (S115_36 v162 p1 p2 v160 v161) [lb101 v162] (P115l0 p1 p2 r)) ?_ v160 v161 v162 r hF
 clear hF r v160 v161 v162
 intro again ih v160 v161 v162 r hF
 refine TL.round (TS.sq (TS.sq (TS.rg (TI.ra 2 [0, 1, 2, 3, 9, 10, 16] (st 141 [(0, anyV 0 v162.length), (1, iv p1), (2, iv p2), (3, fn 87), (9, iv v160), (10, iv v161), (16, .bool (decide (v161 < 5)))]) (TI.dq ?_)))))
 refine TS.cd (.tmp 16) (decide (v161 < 5)) (fun hc329 => ?_) (fun hc329 => ?_)
 · replace hF := of_pos hF hc329
   refine TS.sk (NX.sq (TS.sq (TS.bk 1 (TS.sq (TS.bk 2 ?_)))))
   obtain ⟨r365, h366, hF⟩ := of_do hF
   refine TS.lp (TL.weak (a2 := (S115_36 v162 p1 p2 v160 v161)) (h2 := [lb101 v162]) (Wk.an [] Ats.l [anyV 0 v162.length, iv p1, iv p2, fn 87, iv v160, iv v161] (.cons rav (.fl (.fl (.cons (Rn.func' .nil .nil) (.fl (.fl .nil))))))) (TL.post (L115l1 p1 p2 v161 v162 v160 r365 h366) ?_))
   rintro e a1 h1 hp
   obtain ⟨rfl, hw⟩ := hp
   refine ⟨(st 141 [(0, anyV 0 v162.length), (1, iv p1), (2, iv p2), (3, fn 87), (9, iv r365), (10, iv v161)]), [lb101 v162], (NX.bkX (NX.sq (TS.sq (TS.sq (TS.rg (TI.ra 3 [0, 1, 2, 3, 9, 10, 41] (st 141 [(0, anyV 0 v162.length), (1, iv p1), (2, iv p2), (3, fn 87), (9, iv r365), (10, iv v161), (41, .bool (r365 == p2))]) (TI.dq ?_))))))), hw⟩
   refine TS.cd (.tmp 41) (r365 == p2) (fun hc367 => ?_) (fun hc367 => ?_)
   · replace hF := of_pos hF hc367
     refine TS.sq (TS.rg (TI.ra 1 [0, 8] (st 141 [(0, anyV 0 v162.length), (8, .bool true)]) (TI.dq (TS.rt (NX.sqR (NX.bkR (NX.sqR ?_)))))))
     have hF := sj hF
     subst hF
     exact Rd.out (e := .ret) (by intro h; cases h) (And.intro rfl (Wk.an [] Ats.l [anyV 0 v162.length, .bool true] (.cons rav (.fl .nil))))
   replace hF := of_neg hF hc367
   refine TS.sk (NX.sq (TS.sq (TS.sq (TS.rg (TI.ra 4 [0, 1, 2, 3, 9, 10, 45] (st 141 [(0, anyV 0 v162.length), (1, iv p1), (2, iv p2), (3, fn 87), (9, iv r365), (10, iv v161), (45, .bool (decide ((w64 (p2 - p1)) < 50)))]) (TI.dq ?_))))))
   refine TS.cd (.tmp 45) (decide ((w64 (p2 - p1)) < 50)) (fun hc368 => ?_) (fun hc368 => ?_)
   · replace hF := of_pos hF hc368
     refine TS.sq (TS.rg (TI.ra 1 [0, 8] (st 141 [(0, anyV 0 v162.length), (8, .bool false)]) (TI.dq (TS.rt (NX.sqR (NX.bkR (NX.sqR ?_)))))))
     have hF := sj hF
     subst hF
     exact Rd.out (e := .ret) (by intro h; cases h) (And.intro rfl (Wk.an [] Ats.l [anyV 0 v162.length, .bool false] (.cons rav (.fl .nil))))
   replace hF := of_neg hF hc368
   refine TS.sk (NX.sq (TS.sq ?_))
   obtain ⟨hg369, hF⟩ := of_guard hF
   obtain ⟨o370, h371, hF⟩ := of_do hF
   replace h371 := sj h371
   obtain ⟨hg372, hF⟩ := of_guard hF
   obtain ⟨o373, h374, hF⟩ := of_do hF
   replace h374 := sj h374
   refine TS.draw' (id := 11) (b := true) (ops := c115.s2.s2.s1.s2.bd.bd.s2.s1.bd.s2.s2.s2.s1.rops) (fin := (qs (S115_7 v162 p1 p2 r365 v161 o370 o373) (H115_40 v162 r365 o370) [] [(15, 0)])) (fin2 := (qs (S115_7 v162 p1 p2 r365 v161 o370 o373) (H115_40 v162 r365 o370) [] [(15, 0)])) (a1 := (S115_3 v162 p1 p2 r365 v161 o370 o373)) (h1 := (H115_35 v162 r365 o370 o373)) (a2 := (st 141 [(0, anyV 0 v162.length), (1, iv p1), (2, iv p2), (3, fn 87), (9, iv r365), (10, iv v161)])) (h2 := (H115_35 v162 r365 o370 o373)) [] (fun e he => by cases he) mixed (by kernel_rfl) rfl 16 (by kernel_rfl) [(15, 0)] ?_ rfl (.inr ⟨?_, (by kernel_rfl)⟩) ?_ [0, 1, 2, 3, 9, 10] [0] (by kernel_rfl) ?_
   iterate 2
    · refine QI.r (qs (S115_31 v162 p1 p2 r365 v161) [lb101 v162] [] []) 8 (QI.o { val := pt 0 (0 + (w64 (r365 - 1)).toNat * 2) } (qs (S115_27 v162 p1 p2 r365 v161) [lb101 v162] [] []) (q_ixS 0 0 ((w64 (r365 - 1)).toNat * 2) (by kernel_rfl) hg369) (QI.o { val := ag [iv o370.1, iv o370.2] } (qs (S115_23 v162 p1 p2 r365 v161 o370) [lb101 v162] [] []) (q_nA Pg [lb101 v162] 101 0 (0 + (w64 (r365 - 1)).toNat * 2) v162 e101 2 101 (w64 (r365 - 1)).toNat (0, 0) h371) (QI.r (qs (S115_19 v162 p1 p2 r365 v161 o370) [lb101 v162] [] []) 2 (QI.o { val := pt 0 (0 + r365.toNat * 2) } (qs (S115_15 v162 p1 p2 r365 v161 o370) [lb101 v162] [] []) (q_ixS 0 0 (r365.toNat * 2) (by kernel_rfl) hg372) (QI.o { val := ag [iv o373.1, iv o373.2] } (qs (S115_11 v162 p1 p2 r365 v161 o370 o373) [lb101 v162] [] []) (q_nA Pg [lb101 v162] 101 0 (0 + r365.toNat * 2) v162 e101 2 101 r365.toNat (0, 0) h374) (QI.o { val := pt 0 (0 + r365.toNat * 2) } (qs (S115_7 v162 p1 p2 r365 v161 o370 o373) [lb101 v162] [] []) (q_ixS 0 0 (r365.toNat * 2) (by kernel_rfl) hg372) ?_))))))
      exact QI.o { val := undef, upd := some (0, lb101 (List.set v162 r365.toNat (o370.1, o370.2))) } (qs (S115_7 v162 p1 p2 r365 v161 o370 o373) (H115_40 v162 r365 o370) [] [(15, 0)]) (q_stP Pg 0 [lb101 v162] 101 0 (0 + r365.toNat * 2) v162 e101 2 101 r365.toNat 0 2 (ag [iv o370.1, iv o370.2]) [iv o370.1, iv o370.2] (0, 0) (o370.1, o370.2) (by first | omega | (simp <;> omega))) (QI.done (by kernel_rfl))
   · refine SI.o { val := pt 0 (0 + (w64 (r365 - 1)).toNat * 2) } (S115_3 v162 p1 p2 r365 v161 o370 o373) (H115_40 v162 r365 o370) (q_ixS 0 0 ((w64 (r365 - 1)).toNat * 2) (by kernel_rfl) hg369) ?_
     exact SI.o { val := undef, upd := some (0, lb101 (List.set (List.set v162 r365.toNat (o370.1, o370.2)) (w64 (r365 - 1)).toNat (o373.1, o373.2))) } (S115_3 v162 p1 p2 r365 v161 o370 o373) (H115_35 v162 r365 o370 o373) (q_stP Pg 0 (H115_40 v162 r365 o370) 101 0 (0 + (w64 (r365 - 1)).toNat * 2) (List.set v162 r365.toNat (o370.1, o370.2)) e101 2 101 (w64 (r365 - 1)).toNat 0 2 (ag [iv o373.1, iv o373.2]) [iv o373.1, iv o373.2] (0, 0) (o373.1, o373.2) (by first | omega | (simp <;> omega))) (SI.done (by kernel_rfl))
   refine TS.sq (TS.sq (TS.rg (TI.ra 4 [0, 1, 2, 3, 9, 10, 65] (st 141 [(0, anyV 0 v162.length), (1, iv p1), (2, iv p2), (3, fn 87), (9, iv r365), (10, iv v161), (65, .bool (decide ((w64 (r365 - p1)) ≥ 2)))]) (TI.dq ?_))))
   refine TS.cd (.tmp 65) (decide ((w64 (r365 - p1)) ≥ 2)) (fun hc375 => ?_) (fun hc375 => ?_)
   · replace hF := of_pos hF hc375
     refine TS.sq (TS.rg (TI.ra 3 [0, 1, 2, 3, 9, 10, 11] (st 141 [(0, anyV 0 v162.length), (1, iv p1), (2, iv p2), (3, fn 87), (9, iv r365), (10, iv v161), (11, iv (w64 (r365 - 1)))]) (TI.dq (TS.bk 4 ?_))))
     obtain ⟨r411, h412, hF⟩ := of_do hF
     refine TS.lp (TL.weak (a2 := (st 141 [(0, anyV 0 (List.length (List.set (List.set v162 r365.toNat (o370.1, o370.2)) (w64 (r365 - 1)).toNat (o373.1, o373.2)))), (1, iv p1), (2, iv p2), (3, fn 87), (9, iv r365), (10, iv v161), (11, iv (w64 (r365 - 1)))])) (h2 := (H115_35 v162 r365 o370 o373)) (Wk.an [] Ats.l [anyV 0 v162.length, iv p1, iv p2, fn 87, iv r365, iv v161, iv (w64 (r365 - 1))] (.cons rav (.fl (.fl (.cons (Rn.func' .nil .nil) (.fl (.fl (.fl .nil)))))))) (TL.post (L115l2 p1 p2 r365 v161 (w64 (r365 - 1)) (List.set (List.set v162 r365.toNat (o370.1, o370.2)) (w64 (r365 - 1)).toNat (o373.1, o373.2)) r411 h412) ?_))
     rintro e a1 h1 hp
     obtain ⟨rfl, hw⟩ := hp
     refine ⟨(st 141 [(0, anyV 0 r411.length), (1, iv p1), (2, iv p2), (3, fn 87), (9, iv r365), (10, iv v161)]), [lb101 r411], (NX.bkX (NX.sq (TS.sq (TS.rg (TI.ra 4 [0, 1, 2, 3, 9, 10, 104] (st 141 [(0, anyV 0 r411.length), (1, iv p1), (2, iv p2), (3, fn 87), (9, iv r365), (10, iv v161), (104, .bool (decide ((w64 (p2 - r365)) ≥ 2)))]) (TI.dq ?_)))))), hw⟩
     refine TS.cd (.tmp 104) (decide ((w64 (p2 - r365)) ≥ 2)) (fun hc413 => ?_) (fun hc413 => ?_)
     · replace hF := of_pos hF hc413
       refine TS.sq (TS.rg (TI.ra 3 [0, 1, 2, 3, 9, 10, 12] (st 141 [(0, anyV 0 r411.length), (1, iv p1), (2, iv p2), (3, fn 87), (9, iv r365), (10, iv v161), (12, iv (w64 (r365 + 1)))]) (TI.dq (TS.bk 6 ?_))))
       obtain ⟨r449, h450, hF⟩ := of_do hF
       refine TS.lp (TL.weak (a2 := (st 141 [(0, anyV 0 r411.length), (1, iv p1), (2, iv p2), (3, fn 87), (9, iv r365), (10, iv v161), (12, iv (w64 (r365 + 1)))])) (h2 := [lb101 r411]) (Wk.an [] Ats.l [anyV 0 r411.length, iv p1, iv p2, fn 87, iv r365, iv v161, iv (w64 (r365 + 1))] (.cons rav (.fl (.fl (.cons (Rn.func' .nil .nil) (.fl (.fl (.fl .nil)))))))) (TL.post (L115l3 p1 p2 r365 v161 (w64 (r365 + 1)) r411 r449 h450) ?_))
       rintro e a1 h1 hp
       obtain ⟨rfl, hw⟩ := hp
       refine ⟨(st 141 [(0, anyV 0 r449.length), (1, iv p1), (2, iv p2), (3, fn 87), (9, iv r365), (10, iv v161)]), [lb101 r449], (NX.bkX (NX.bk (NX.sq (TS.rg (TI.ra 3 [0, 1, 2, 3, 9, 10] (st 141 [(0, anyV 0 r449.length), (1, iv p1), (2, iv p2), (3, fn 87), (9, iv r365), (10, iv (w64 (v161 + 1)))]) (TI.dn ?_)))))), hw⟩
       exact Rd.again (a2 := (st 141 [(0, anyV 0 r449.length), (1, iv p1), (2, iv p2), (3, fn 87), (9, iv r365), (10, iv (w64 (v161 + 1)))])) (h2 := [lb101 r449]) (Wk.an [] Ats.l [anyV 0 r449.length, iv p1, iv p2, fn 87, iv r365, iv (w64 (v161 + 1))] (.cons rav (.fl (.fl (.cons (Rn.func' .nil .nil) (.fl (.fl .nil))))))) (ih r365 (w64 (v161 + 1)) r449 _ hF)
     replace hF := of_neg hF hc413
     refine TS.sk (NX.bk (NX.sq (TS.rg (TI.ra 3 [0, 1, 2, 3, 9, 10] (st 141 [(0, anyV 0 r411.length), (1, iv p1), (2, iv p2), (3, fn 87), (9, iv r365), (10, iv (w64 (v161 + 1)))]) (TI.dn ?_)))))
     exact Rd.again (a2 := (st 141 [(0, anyV 0 r411.length), (1, iv p1), (2, iv p2), (3, fn 87), (9, iv r365), (10, iv (w64 (v161 + 1)))])) (h2 := [lb101 r411]) (Wk.an [] Ats.l [anyV 0 r411.length, iv p1, iv p2, fn 87, iv r365, iv (w64 (v161 + 1))] (.cons rav (.fl (.fl (.cons (Rn.func' .nil .nil) (.fl (.fl .nil))))))) (ih r365 (w64 (v161 + 1)) r411 _ hF)
   replace hF := of_neg hF hc375
   refine TS.sk (NX.sq (TS.sq (TS.rg (TI.ra 4 [0, 1, 2, 3, 9, 10, 104] (st 141 [(0, anyV 0 v162.length), (1, iv p1), (2, iv p2), (3, fn 87), (9, iv r365), (10, iv v161), (104, .bool (decide ((w64 (p2 - r365)) ≥ 2)))]) (TI.dq ?_)))))
   refine TS.cd (.tmp 104) (decide ((w64 (p2 - r365)) ≥ 2)) (fun hc451 => ?_) (fun hc451 => ?_)
   · replace hF := of_pos hF hc451
     refine TS.sq (TS.rg (TI.ra 3 [0, 1, 2, 3, 9, 10, 12] (st 141 [(0, anyV 0 v162.length), (1, iv p1), (2, iv p2), (3, fn 87), (9, iv r365), (10, iv v161), (12, iv (w64 (r365 + 1)))]) (TI.dq (TS.bk 6 ?_))))
     obtain ⟨r487, h488, hF⟩ := of_do hF
     refine TS.lp (TL.weak (a2 := (st 141 [(0, anyV 0 (List.length (List.set (List.set v162 r365.toNat (o370.1, o370.2)) (w64 (r365 - 1)).toNat (o373.1, o373.2)))), (1, iv p1), (2, iv p2), (3, fn 87), (9, iv r365), (10, iv v161), (12, iv (w64 (r365 + 1)))])) (h2 := (H115_35 v162 r365 o370 o373)) (Wk.an [] Ats.l [anyV 0 v162.length, iv p1, iv p2, fn 87, iv r365, iv v161, iv (w64 (r365 + 1))] (.cons rav (.fl (.fl (.cons (Rn.func' .nil .nil) (.fl (.fl (.fl .nil)))))))) (TL.post (L115l4 p1 p2 r365 v161 (w64 (r365 + 1)) (List.set (List.set v162 r365.toNat (o370.1, o370.2)) (w64 (r365 - 1)).toNat (o373.1, o373.2)) r487 h488) ?_))
     rintro e a1 h1 hp
     obtain ⟨rfl, hw⟩ := hp
     refine ⟨(st 141 [(0, anyV 0 r487.length), (1, iv p1), (2, iv p2), (3, fn 87), (9, iv r365), (10, iv v161)]), [lb101 r487], (NX.bkX (NX.bk (NX.sq (TS.rg (TI.ra 3 [0, 1, 2, 3, 9, 10] (st 141 [(0, anyV 0 r487.length), (1, iv p1), (2, iv p2), (3, fn 87), (9, iv r365), (10, iv (w64 (v161 + 1)))]) (TI.dn ?_)))))), hw⟩
     exact Rd.again (a2 := (st 141 [(0, anyV 0 r487.length), (1, iv p1), (2, iv p2), (3, fn 87), (9, iv r365), (10, iv (w64 (v161 + 1)))])) (h2 := [lb101 r487]) (Wk.an [] Ats.l [anyV 0 r487.length, iv p1, iv p2, fn 87, iv r365, iv (w64 (v161 + 1))] (.cons rav (.fl (.fl (.cons (Rn.func' .nil .nil) (.fl (.fl .nil))))))) (ih r365 (w64 (v161 + 1)) r487 _ hF)
   replace hF := of_neg hF hc451
   refine TS.sk (NX.bk (NX.sq (TS.rg (TI.ra 3 [0, 1, 2, 3, 9, 10] (st 141 [(0, anyV 0 v162.length), (1, iv p1), (2, iv p2), (3, fn 87), (9, iv r365), (10, iv (w64 (v161 + 1)))]) (TI.dn ?_)))))
   exact Rd.again (a2 := (st 141 [(0, anyV 0 (List.length (List.set (List.set v162 r365.toNat (o370.1, o370.2)) (w64 (r365 - 1)).toNat (o373.1, o373.2)))), (1, iv p1), (2, iv p2), (3, fn 87), (9, iv r365), (10, iv (w64 (v161 + 1)))])) (h2 := (H115_35 v162 r365 o370 o373)) (Wk.an [] Ats.l [anyV 0 v162.length, iv p1, iv p2, fn 87, iv r365, iv (w64 (v161 + 1))] (.cons rav (.fl (.fl (.cons (Rn.func' .nil .nil) (.fl (.fl .nil))))))) (ih r365 (w64 (v161 + 1)) (List.set (List.set v162 r365.toNat (o370.1, o370.2)) (w64 (r365 - 1)).toNat (o373.1, o373.2)) _ hF)
 replace hF := of_neg hF hc329
 refine TS.ex 0 (NX.sqX ?_)
 have hF := sj hF
 subst hF
 exact Rd.out (e := .exit 0) (by intro h; cases h) (And.intro rfl (Wk.an [] Ats.l [anyV 0 v162.length] (.cons rav .nil)))
theorem B115 (p0 : List I2) (p1 p2 : Int) (r : Bool × (List I2)) (hF : F115 p0 p1 p2 = some r) : TS Pg 0 1 c115 (st 141 [(0, anyV 0 p0.length), (1, iv p1), (2, iv p2), (3, fn 87)]) [lb101 p0] (NX Pg 0 1 [] (SortFin Pg Try.f115 [lb101 r.2] (.bool r.1))) := by
 unfold F115 at hF
 refine TS.sq (TS.rg (TI.ra 1 [0, 1, 2, 3] (st 141 [(0, anyV 0 p0.length), (1, iv p1), (2, iv p2), (3, fn 87)]) (TI.dq (TS.sq (TS.rg (TI.ra 3 [0, 1, 2, 3, 9] (st 141 [(0, anyV 0 p0.length), (1, iv p1), (2, iv p2), (3, fn 87), (9, iv (w64 (p1 + 1)))]) (TI.dn ?_)))))))
 refine NX.sq (TS.sq (TS.sq (TS.rg (TI.ra 1 [0, 1, 2, 3, 9, 10] (st 141 [(0, anyV 0 p0.length), (1, iv p1), (2, iv p2), (3, fn 87), (9, iv (w64 (p1 + 1))), (10, iv 0)]) (TI.dq (TS.bk 0 ?_))))))
 obtain ⟨r489, h490, hF⟩ := of_do hF
 refine TS.lp (TL.weak (a2 := (st 141 [(0, anyV 0 p0.length), (1, iv p1), (2, iv p2), (3, fn 87), (9, iv (w64 (p1 + 1))), (10, iv 0)])) (h2 := [lb101 p0]) (Wk.an [] Ats.l [anyV 0 p0.length, iv p1, iv p2, fn 87, iv (w64 (p1 + 1)), iv 0] (.cons rav (.fl (.fl (.cons (Rn.func' .nil .nil) (.fl (.fl .nil))))))) (TL.post (L115l0 p1 p2 (w64 (p1 + 1)) 0 p0 r489 h490) ?_))
 rintro e a1 h1 hp
 rcases r489 with o491 | o492
 · skip
   obtain ⟨rfl, hw⟩ := hp
   refine ⟨(st 141 [(0, anyV 0 o491.1.length), (8, .bool o491.2)]), [lb101 o491.1], (NX.bkR (NX.sqR ?_)), hw⟩
   have hF := sj hF
   subst hF
   exact ⟨.inr rfl, rfl, rfl, by kernel_rfl⟩
 skip
 obtain ⟨rfl, hw⟩ := hp
 refine ⟨(st 141 [(0, anyV 0 o492.length)]), [lb101 o492], (NX.bkX (NX.sq (TS.sq (TS.rg (TI.ra 1 [0, 8] (st 141 [(0, anyV 0 o492.length), (8, .bool false)]) (TI.dq (TS.rt ?_))))))), hw⟩
 have hF := sj hF
 subst hF
 exact ⟨.inr rfl, rfl, rfl, by kernel_rfl⟩
theorem C115 (p0 : List I2) (k : Nat) (hk : List.length p0 = k) (p1 p2 : Int) (r : Bool × (List I2)) (hF : F115 p0 p1 p2 = some r) : ImpSim Pg 115 [anyV 0 k, iv p1, iv p2, fn 87] 0 [lb101 p0] (.bool r.1) [lb101 r.2] := by
 subst hk
 exact ImpSim.of_TS (fn := Try.f115) (c := c115) (by kernel_rfl) (by kernel_rfl) (by kernel_rfl) (Nat.le_refl _) (TS.weak (a2 := (st 141 [(0, anyV 0 p0.length), (1, iv p1), (2, iv p2), (3, fn 87)])) (h2 := [lb101 p0]) (Eq.mp (by kernel_rfl) (Wk.tm (P := Pg) (base := 0) (L := 1) (a := { tmps := [anyV 0 p0.length, iv p1, iv p2, fn 87] ++ List.replicate 137 undef }) (h := [lb101 p0]) [0, 1, 2, 3])) (B115 p0 p1 p2 r hF))
noncomputable def c111 : Code := Try.f111.code
def S111_10 (v30 : List I2) (p1 v29 : Int) : CAct := (st 60 [(0, anyV 0 v30.length), (3, fn 87), (8, iv p1), (9, iv 0), (12, iv v29)])
def S111_7 (v30 : List I2) (p1 v29 : Int) : CAct := sx (S111_10 v30 p1 v29) [(33, .bool (decide (v29 ≥ 0))), (36, anyV 0 v30.length), (37, iv p1), (38, anyV 0 v30.length), (39, iv p1), (40, iv v29), (41, iv (w64 (p1 + v29))), (42, anyV 0 v30.length), (43, iv p1), (44, iv v29), (45, iv (w64 (p1 + v29)))]
def S111_6 (v30 : List I2) (p1 v29 : Int) : CAct := sx (S111_7 v30 p1 v29) [(46, pt 0 (0 + (w64 (p1 + v29)).toNat * 2))]
def S111_5 (v30 : List I2) (p1 v29 : Int) (o45 : I2) : CAct := sx (S111_6 v30 p1 v29) [(47, ag [iv o45.1, iv o45.2])]
def S111_4 (v30 : List I2) (p1 v29 : Int) (o45 : I2) : CAct := sx (S111_5 v30 p1 v29 o45) [(48, anyV 0 v30.length), (49, iv p1)]
def S111_3 (v30 : List I2) (p1 v29 : Int) (o45 : I2) : CAct := sx (S111_4 v30 p1 v29 o45) [(50, pt 0 (0 + p1.toNat * 2))]
def S111_2 (v30 : List I2) (p1 v29 : Int) (o45 o48 : I2) : CAct := sx (S111_3 v30 p1 v29 o45) [(51, ag [iv o48.1, iv o48.2])]
def S111_1 (v30 : List I2) (p1 v29 : Int) (o45 o48 : I2) : CAct := sx (S111_2 v30 p1 v29 o45 o48) [(52, pt 0 (0 + p1.toNat * 2))]
def S111_0 (v30 : List I2) (p1 v29 : Int) (o45 o48 : I2) : CAct := sx (S111_1 v30 p1 v29 o45 o48) [(53, pt 0 (0 + (w64 (p1 + v29)).toNat * 2))]
def S111_8 (p0 : List I2) (p1 p2 : Int) : CAct := (st 60 [(0, anyV 0 p0.length), (3, fn 87), (8, iv p1), (9, iv 0), (10, iv (w64 (p2 - p1))), (11, iv (w64 (Int.tdiv (w64 ((w64 (p2 - p1)) - 1)) 2)))])
def H111_9 (v30 : List I2) (p1 : Int) (o45 : I2) (v29 : Int) (o48 : I2) : List Blk := [lb101 (List.set (List.set v30 p1.toNat (o45.1, o45.2)) (w64 (p1 + v29)).toNat (o48.1, o48.2))]
def H111_11 (v30 : List I2) (p1 : Int) (o45 : I2) : List Blk := [lb101 (List.set v30 p1.toNat (o45.1, o45.2))]
def F111l0 (p1 p2 v5 : Int) (v6 : List I2) : Option (List I2) :=
 if decide (v5 ≥ 0) then
  F123 v6 v5 (w64 (p2 - p1)) p1 >>= fun r14 =>
  if List.length r14 = List.length v6 then
   F111l0 p1 p2 (w64 (v5 - 1)) r14
  else none
 else
  some v6
 partial_fixpoint
def F111l1 (p1 v29 : Int) (v30 : List I2) : Option (List I2) :=
 if decide (v29 ≥ 0) then
  if (0 : Int) ≤ w64 (p1 + v29) ∧ w64 (p1 + v29) < (v30.length : Int) then
   some (List.getD v30 (w64 (p1 + v29)).toNat (0, 0)) >>= fun o45 =>
   if (0 : Int) ≤ p1 ∧ p1 < (v30.length : Int) then
    some (List.getD v30 p1.toNat (0, 0)) >>= fun o48 =>
    F123 (List.set (List.set v30 p1.toNat (o45.1, o45.2)) (w64 (p1 + v29)).toNat (o48.1, o48.2)) 0 v29 p1 >>= fun r50 =>
    if List.length r50 = List.length v30 then
     F111l1 p1 (w64 (v29 - 1)) r50
    else none
   else none
  else none
 else
  some v30
 partial_fixpoint
def F111 (p0 : List I2) (p1 p2 : Int) : Option (List I2) :=
 F111l0 p1 p2 (w64 (Int.tdiv (w64 ((w64 (p2 - p1)) - 1)) 2)) p0 >>= fun r17 =>
 F111l1 p1 (w64 ((w64 (p2 - p1)) - 1)) r17 >>= fun r53 =>
 some (r53)
def P111l0 (p1 p2 : Int) (r : List I2) : Post := fun e a h => e = .exit 0 ∧ Wk Pg 0 1 a h (st 60 [(0, anyV 0 r.length), (3, fn 87), (8, iv p1), (9, iv 0), (10, iv (w64 (p2 - p1)))]) [lb101 r]
theorem L111l0 (p1 p2 v5 : Int) (v6 r : List I2) (hF : F111l0 p1 p2 v5 v6 = some r) : TL Pg 0 1 c111.s2.s2.s2.s1.s2.bd.bd (st 60 [(0, anyV 0 v6.length), (3, fn 87), (8, iv p1), (9, iv 0), (10, iv (w64 (p2 - p1))), (11, iv v5)]) [lb101 v6] (P111l0 p1 p2 r) := by
 refine F111l0.partial_correctness p1 p2 (motive := fun v5 v6 r => TL Pg 0 1 c111.s2.s2.s2.s1.s2.bd.bd (st 60 [(0, anyV 0 v6.length), (3, fn 87), (8, iv p1), (9, iv 0), (10, iv (w64 (p2 - p1))), (11, iv v5)]) [lb101 v6] (P111l0 p1 p2 r)) ?_ v5 v6 r hF
 clear hF r v5 v6
 intro again ih v5 v6 r hF
 refine TL.round (TS.sq (TS.sq (TS.rg (TI.ra 2 [0, 3, 8, 9, 10, 11, 21] (st 60 [(0, anyV 0 v6.length), (3, fn 87), (8, iv p1), (9, iv 0), (10, iv (w64 (p2 - p1))), (11, iv v5), (21, .bool (decide (v5 ≥ 0)))]) (TI.dq ?_)))))
 refine TS.cd (.tmp 21) (decide (v5 ≥ 0)) (fun hc13 => ?_) (fun hc13 => ?_)
 · replace hF := of_pos hF hc13
   refine TS.sk (NX.sq (TS.sq (TS.bk 1 ?_)))
   obtain ⟨r14, h15, hF⟩ := of_do hF
   obtain ⟨hg16, hF⟩ := of_guard hF
   refine TS.rg (TI.ra 5 [0, 3, 8, 9, 10, 11, 24, 25, 26, 27, 28] (st 60 [(0, anyV 0 v6.length), (3, fn 87), (8, iv p1), (9, iv 0), (10, iv (w64 (p2 - p1))), (11, iv v5), (24, anyV 0 v6.length), (25, iv v5), (26, iv (w64 (p2 - p1))), (27, iv p1), (28, fn 87)]) ?_)
   refine TI.icallL (g := 123) (args := [anyV 0 v6.length, iv v5, iv (w64 (p2 - p1)), iv p1, fn 87]) (v := .tuple ⟨[]⟩) (h1 := [lb101 r14]) (a2 := (st 60 [(0, anyV 0 r14.length), (3, fn 87), (8, iv p1), (9, iv 0), (10, iv (w64 (p2 - p1))), (11, iv v5)])) (h2 := [lb101 r14]) (fun nn => (st 60 [(0, anyV 0 (nn)), (3, fn 87), (8, iv p1), (9, iv 0), (10, iv (w64 (p2 - p1))), (11, iv v5)])) (by kernel_rfl) (C123 _ _ (by first | rfl | simp only [List.length_set]) _ _ _ _ h15) [0, 3, 8, 9, 10, 11] [0] hg16 (by kernel_rfl) rfl (TI.dn (NX.bk (NX.sq (TS.rg (TI.ra 3 [0, 3, 8, 9, 10, 11] (st 60 [(0, anyV 0 r14.length), (3, fn 87), (8, iv p1), (9, iv 0), (10, iv (w64 (p2 - p1))), (11, iv (w64 (v5 - 1)))]) (TI.dn ?_))))))
   exact Rd.again (a2 := (st 60 [(0, anyV 0 r14.length), (3, fn 87), (8, iv p1), (9, iv 0), (10, iv (w64 (p2 - p1))), (11, iv (w64 (v5 - 1)))])) (h2 := [lb101 r14]) (Wk.an [] Ats.l [anyV 0 r14.length, fn 87, iv p1, iv 0, iv (w64 (p2 - p1)), iv (w64 (v5 - 1))] (.cons rav (.cons (Rn.func' .nil .nil) (.fl (.fl (.fl (.fl .nil))))))) (ih (w64 (v5 - 1)) r14 _ hF)
 replace hF := of_neg hF hc13
 refine TS.ex 0 (NX.sqX ?_)
 have hF := sj hF
 subst hF
 exact Rd.out (e := .exit 0) (by intro h; cases h) (And.intro rfl (Wk.an [] Ats.l [anyV 0 v6.length, fn 87, iv p1, iv 0, iv (w64 (p2 - p1))] (.cons rav (.cons (Rn.func' .nil .nil) (.fl (.fl (.fl .nil)))))))
def P111l1 (p1 : Int) (r : List I2) : Post := fun e a h => e = .exit 2 ∧ Wk Pg 0 1 a h (st 60 [(0, anyV 0 r.length)]) [lb101 r]
theorem L111l1 (p1 v29 : Int) (v30 r : List I2) (hF : F111l1 p1 v29 v30 = some r) : TL Pg 0 1 c111.s2.s2.s2.s2.s2.bd.bd (S111_10 v30 p1 v29) [lb101 v30] (P111l1 p1 r) := by
 refine F111l1.partial_correctness p1 (motive := fun v29 v30 r => TL Pg 0 1 c111.s2.s2.s2.s2.s2.bd.bd (S111_10 v30 p1 v29) [lb101 v30] (P111l1 p1 r)) ?_ v29 v30 r hF
 clear hF r v29 v30
 intro again ih v29 v30 r hF
 refine TL.round (TS.sq (TS.sq (TS.rg (TI.ra 2 [0, 3, 8, 9, 12, 33] (st 60 [(0, anyV 0 v30.length), (3, fn 87), (8, iv p1), (9, iv 0), (12, iv v29), (33, .bool (decide (v29 ≥ 0)))]) (TI.dq ?_)))))
 refine TS.cd (.tmp 33) (decide (v29 ≥ 0)) (fun hc43 => ?_) (fun hc43 => ?_)
 · replace hF := of_pos hF hc43
   refine TS.sk (NX.sq (TS.sq (TS.bk 3 (TS.sq ?_))))
   obtain ⟨hg44, hF⟩ := of_guard hF
   obtain ⟨o45, h46, hF⟩ := of_do hF
   replace h46 := sj h46
   obtain ⟨hg47, hF⟩ := of_guard hF
   obtain ⟨o48, h49, hF⟩ := of_do hF
   replace h49 := sj h49
   refine TS.draw' (id := 10) (b := true) (ops := c111.s2.s2.s2.s2.s2.bd.bd.s2.s1.bd.s1.rops) (fin := (qs (S111_1 v30 p1 v29 o45 o48) (H111_11 v30 p1 o45) [] [(17, 0)])) (fin2 := (qs (S111_1 v30 p1 v29 o45 o48) (H111_11 v30 p1 o45) [] [(17, 0)])) (a1 := (S111_0 v30 p1 v29 o45 o48)) (h1 := (H111_9 v30 p1 o45 v29 o48)) (a2 := (S111_10 v30 p1 v29)) (h2 := (H111_9 v30 p1 o45 v29 o48)) [] (fun e he => by cases he) mixed (by kernel_rfl) rfl 18 (by kernel_rfl) [(17, 0)] ?_ rfl (.inr ⟨?_, (by kernel_rfl)⟩) ?_ [0, 3, 8, 9, 12] [0] (by kernel_rfl) ?_
   iterate 2
    · refine QI.r (qs (S111_7 v30 p1 v29) [lb101 v30] [] []) 10 (QI.o { val := pt 0 (0 + (w64 (p1 + v29)).toNat * 2) } (qs (S111_6 v30 p1 v29) [lb101 v30] [] []) (q_ixS 0 0 ((w64 (p1 + v29)).toNat * 2) (by kernel_rfl) hg44) (QI.o { val := ag [iv o45.1, iv o45.2] } (qs (S111_5 v30 p1 v29 o45) [lb101 v30] [] []) (q_nA Pg [lb101 v30] 101 0 (0 + (w64 (p1 + v29)).toNat * 2) v30 e101 2 101 (w64 (p1 + v29)).toNat (0, 0) h46) (QI.r (qs (S111_4 v30 p1 v29 o45) [lb101 v30] [] []) 2 (QI.o { val := pt 0 (0 + p1.toNat * 2) } (qs (S111_3 v30 p1 v29 o45) [lb101 v30] [] []) (q_ixS 0 0 (p1.toNat * 2) (by kernel_rfl) hg47) (QI.o { val := ag [iv o48.1, iv o48.2] } (qs (S111_2 v30 p1 v29 o45 o48) [lb101 v30] [] []) (q_nA Pg [lb101 v30] 101 0 (0 + p1.toNat * 2) v30 e101 2 101 p1.toNat (0, 0) h49) (QI.o { val := pt 0 (0 + p1.toNat * 2) } (qs (S111_1 v30 p1 v29 o45 o48) [lb101 v30] [] []) (q_ixS 0 0 (p1.toNat * 2) (by kernel_rfl) hg47) ?_))))))
      exact QI.o { val := undef, upd := some (0, lb101 (List.set v30 p1.toNat (o45.1, o45.2))) } (qs (S111_1 v30 p1 v29 o45 o48) (H111_11 v30 p1 o45) [] [(17, 0)]) (q_stP Pg 0 [lb101 v30] 101 0 (0 + p1.toNat * 2) v30 e101 2 101 p1.toNat 0 2 (ag [iv o45.1, iv o45.2]) [iv o45.1, iv o45.2] (0, 0) (o45.1, o45.2) (by first | omega | (simp <;> omega))) (QI.done (by kernel_rfl))
   · refine SI.o { val := pt 0 (0 + (w64 (p1 + v29)).toNat * 2) } (S111_0 v30 p1 v29 o45 o48) (H111_11 v30 p1 o45) (q_ixS 0 0 ((w64 (p1 + v29)).toNat * 2) (by kernel_rfl) hg44) ?_
     exact SI.o { val := undef, upd := some (0, lb101 (List.set (List.set v30 p1.toNat (o45.1, o45.2)) (w64 (p1 + v29)).toNat (o48.1, o48.2))) } (S111_0 v30 p1 v29 o45 o48) (H111_9 v30 p1 o45 v29 o48) (q_stP Pg 0 (H111_11 v30 p1 o45) 101 0 (0 + (w64 (p1 + v29)).toNat * 2) (List.set v30 p1.toNat (o45.1, o45.2)) e101 2 101 (w64 (p1 + v29)).toNat 0 2 (ag [iv o48.1, iv o48.2]) [iv o48.1, iv o48.2] (0, 0) (o48.1, o48.2) (by first | omega | (simp <;> omega))) (SI.done (by kernel_rfl))
   obtain ⟨r50, h51, hF⟩ := of_do hF
   obtain ⟨hg52, hF⟩ := of_guard hF
   refine TS.rg (TI.ra 5 [0, 3, 8, 9, 12, 54, 55, 56, 57, 58] (st 60 [(0, anyV 0 v30.length), (3, fn 87), (8, iv p1), (9, iv 0), (12, iv v29), (54, anyV 0 v30.length), (55, iv 0), (56, iv v29), (57, iv p1), (58, fn 87)]) ?_)
   refine TI.icallL (g := 123) (args := [anyV 0 v30.length, iv 0, iv v29, iv p1, fn 87]) (v := .tuple ⟨[]⟩) (h1 := [lb101 r50]) (a2 := (st 60 [(0, anyV 0 r50.length), (3, fn 87), (8, iv p1), (9, iv 0), (12, iv v29)])) (h2 := [lb101 r50]) (fun nn => (st 60 [(0, anyV 0 (nn)), (3, fn 87), (8, iv p1), (9, iv 0), (12, iv v29)])) (by kernel_rfl) (C123 _ _ (by first | rfl | simp only [List.length_set]) _ _ _ _ h51) [0, 3, 8, 9, 12] [0] hg52 (by kernel_rfl) rfl (TI.dn (NX.bk (NX.sq (TS.rg (TI.ra 3 [0, 3, 8, 9, 12] (st 60 [(0, anyV 0 r50.length), (3, fn 87), (8, iv p1), (9, iv 0), (12, iv (w64 (v29 - 1)))]) (TI.dn ?_))))))
   exact Rd.again (a2 := (st 60 [(0, anyV 0 r50.length), (3, fn 87), (8, iv p1), (9, iv 0), (12, iv (w64 (v29 - 1)))])) (h2 := [lb101 r50]) (Wk.an [] Ats.l [anyV 0 r50.length, fn 87, iv p1, iv 0, iv (w64 (v29 - 1))] (.cons rav (.cons (Rn.func' .nil .nil) (.fl (.fl (.fl .nil)))))) (ih (w64 (v29 - 1)) r50 _ hF)
 replace hF := of_neg hF hc43
 refine TS.ex 2 (NX.sqX ?_)
 have hF := sj hF
 subst hF
 exact Rd.out (e := .exit 2) (by intro h; cases h) (And.intro rfl (Wk.an [] Ats.l [anyV 0 v30.length] (.cons rav .nil)))
theorem B111 (p0 : List I2) (p1 p2 : Int) (r : List I2) (hF : F111 p0 p1 p2 = some r) : TS Pg 0 1 c111 (st 60 [(0, anyV 0 p0.length), (1, iv p1), (2, iv p2), (3, fn 87)]) [lb101 p0] (NX Pg 0 1 [] (SortFin Pg Try.f111 [lb101 r] (.tuple #[]))) := by
 unfold F111 at hF
 refine TS.sq (TS.rg (TI.ra 2 [0, 1, 2, 3, 8] (st 60 [(0, anyV 0 p0.length), (1, iv p1), (2, iv p2), (3, fn 87), (8, iv p1)]) (TI.dq (TS.sq (TS.rg (TI.ra 1 [0, 1, 2, 3, 8, 9] (st 60 [(0, anyV 0 p0.length), (1, iv p1), (2, iv p2), (3, fn 87), (8, iv p1), (9, iv 0)]) (TI.dn ?_)))))))
 refine NX.sq (TS.sq (TS.rg (TI.ra 4 [0, 3, 8, 9, 10] (st 60 [(0, anyV 0 p0.length), (3, fn 87), (8, iv p1), (9, iv 0), (10, iv (w64 (p2 - p1)))]) (TI.dq (TS.sq (TS.sq (TS.rg ?_)))))))
 refine TI.ra 4 [0, 3, 8, 9, 10, 11] (S111_8 p0 p1 p2) (TI.dq (TS.bk 0 ?_))
 obtain ⟨r17, h18, hF⟩ := of_do hF
 refine TS.lp (TL.weak (a2 := (S111_8 p0 p1 p2)) (h2 := [lb101 p0]) (Wk.an [] Ats.l [anyV 0 p0.length, fn 87, iv p1, iv 0, iv (w64 (p2 - p1)), iv (w64 (Int.tdiv (w64 ((w64 (p2 - p1)) - 1)) 2))] (.cons rav (.cons (Rn.func' .nil .nil) (.fl (.fl (.fl (.fl .nil))))))) (TL.post (L111l0 p1 p2 (w64 (Int.tdiv (w64 ((w64 (p2 - p1)) - 1)) 2)) p0 r17 h18) ?_))
 rintro e a1 h1 hp
 obtain ⟨rfl, hw⟩ := hp
 refine ⟨(st 60 [(0, anyV 0 r17.length), (3, fn 87), (8, iv p1), (9, iv 0), (10, iv (w64 (p2 - p1)))]), [lb101 r17], (NX.bkX (NX.sq (TS.sq (TS.rg (TI.ra 3 [0, 3, 8, 9, 12] (st 60 [(0, anyV 0 r17.length), (3, fn 87), (8, iv p1), (9, iv 0), (12, iv (w64 ((w64 (p2 - p1)) - 1)))]) (TI.dq (TS.bk 2 ?_))))))), hw⟩
 obtain ⟨r53, h54, hF⟩ := of_do hF
 refine TS.lp (TL.weak (a2 := (st 60 [(0, anyV 0 r17.length), (3, fn 87), (8, iv p1), (9, iv 0), (12, iv (w64 ((w64 (p2 - p1)) - 1)))])) (h2 := [lb101 r17]) (Wk.an [] Ats.l [anyV 0 r17.length, fn 87, iv p1, iv 0, iv (w64 ((w64 (p2 - p1)) - 1))] (.cons rav (.cons (Rn.func' .nil .nil) (.fl (.fl (.fl .nil)))))) (TL.post (L111l1 p1 (w64 ((w64 (p2 - p1)) - 1)) r17 r53 h54) ?_))
 rintro e a1 h1 hp
 obtain ⟨rfl, hw⟩ := hp
 refine ⟨(st 60 [(0, anyV 0 r53.length)]), [lb101 r53], (NX.bkX ?_), hw⟩
 have hF := sj hF
 subst hF
 exact ⟨.inl rfl, rfl, rfl, by kernel_rfl⟩
theorem C111 (p0 : List I2) (k : Nat) (hk : List.length p0 = k) (p1 p2 : Int) (r : List I2) (hF : F111 p0 p1 p2 = some r) : ImpSim Pg 111 [anyV 0 k, iv p1, iv p2, fn 87] 0 [lb101 p0] (.tuple #[]) [lb101 r] := by
 subst hk
 exact ImpSim.of_TS (fn := Try.f111) (c := c111) (by kernel_rfl) (by kernel_rfl) (by kernel_rfl) (Nat.le_refl _) (TS.weak (a2 := (st 60 [(0, anyV 0 p0.length), (1, iv p1), (2, iv p2), (3, fn 87)])) (h2 := [lb101 p0]) (Eq.mp (by kernel_rfl) (Wk.tm (P := Pg) (base := 0) (L := 1) (a := { tmps := [anyV 0 p0.length, iv p1, iv p2, fn 87] ++ List.replicate 56 undef }) (h := [lb101 p0]) [0, 1, 2, 3])) (B111 p0 p1 p2 r hF))
end Go.Proofs.Ythpfffijnkmdgaa
