/- What functions of the program compute, and that they do. -/
import Derived.Test.YtiaippkjgmccoaaKD
import Derived.Test.YtiaippkjgmccoaaKEq
set_option linter.unusedVariables false
set_option linter.unusedSimpArgs false
set_option maxRecDepth 100000
set_option maxHeartbeats 4000000
namespace Go.Proofs.Ytiaippkjgmccoaa
open Go Go.Cl
noncomputable section
noncomputable def c83 : Code := Try.f83.code
def H83_0 (p0 : (List ((Int × Bool) × (Int × Bool)))) (p1 : Int) (p2 : Bool) (p3 : Int) (p4 : Bool) : List Blk := [ab 86 e86 p0, cl 86 [iv p1, .bool p2, iv p3, .bool p4]]
def F83l0 (p0 : (List ((Int × Bool) × (Int × Bool)))) (p1 : Int) (p2 : Bool) (p3 : Int) (p4 : Bool) (v6 : Int) : Option (Int ⊕ Unit) :=
 if decide (v6 < (p0.length : Int)) then
  if (0 : Int) ≤ v6 ∧ v6 < (p0.length : Int) then
   some (List.getD p0 (Int.toNat v6) ((0, false), (0, false))) >>= fun o16 =>
   if (((p1 == o16.1.1) && ((p2 == o16.1.2) && true)) && (((p3 == o16.2.1) && ((p4 == o16.2.2) && true)) && true)) then
    some (.inl v6)
   else
    F83l0 p0 p1 p2 p3 p4 (w64 (v6 + 1))
  else none
 else
  some (.inr ())
 partial_fixpoint
def F83 (p0 : (List ((Int × Bool) × (Int × Bool)))) (p1 : Int) (p2 : Bool) (p3 : Int) (p4 : Bool) : Option Int :=
 F83l0 p0 p1 p2 p3 p4 0 >>= fun r19 =>
 match r19 with
 | .inl o21 =>
  some o21
 | .inr o22 =>
  some (-1)
def V83 (b : Nat) (r : Int) : Value := iv r
def N83 (b : Nat) (r : Int) : List Blk := []
def P83l0 (p0 : (List ((Int × Bool) × (Int × Bool)))) (p1 : Int) (p2 : Bool) (p3 : Int) (p4 : Bool) (r : (Int ⊕ Unit)) : Post := fun e a h => (match r with | .inl q0 => e = .ret ∧ Wk Try.prog 1 1 a h (st 19 [(4, iv q0)]) [ab 86 e86 p0] | .inr q0 => e = .exit 0 ∧ Wk Try.prog 1 1 a h (st 19 []) [ab 86 e86 p0])
theorem L83l0 (p0 : (List ((Int × Bool) × (Int × Bool)))) (p1 : Int) (p2 : Bool) (p3 : Int) (p4 : Bool) (v6 : Int) (r : (Int ⊕ Unit)) (hF : F83l0 p0 p1 p2 p3 p4 v6 = some r) : TL Try.prog 1 1 c83.s2.s1.s2.bd.bd (st 19 [(0, sv 0 p0.length ANY), (3, pt 1 0), (7, iv (p0.length : Int)), (8, iv v6)]) (H83_0 p0 p1 p2 p3 p4) (P83l0 p0 p1 p2 p3 p4 r) := by
 refine F83l0.partial_correctness p0 p1 p2 p3 p4 (motive := fun v6 r => TL Try.prog 1 1 c83.s2.s1.s2.bd.bd (st 19 [(0, sv 0 p0.length ANY), (3, pt 1 0), (7, iv (p0.length : Int)), (8, iv v6)]) (H83_0 p0 p1 p2 p3 p4) (P83l0 p0 p1 p2 p3 p4 r)) ?_ v6 r hF
 clear hF r v6
 intro again ih v6 r hF
 refine TL.round (TS.sq (TS.rg (TI.ra 1 [0, 3, 7, 8, 9] (st 19 [(0, sv 0 p0.length ANY), (3, pt 1 0), (7, iv (p0.length : Int)), (8, iv v6), (9, .bool (decide (v6 < (p0.length : Int))))]) (TI.dn (NX.sq (TS.sq ?_))))))
 refine TS.cd (.tmp 9) (decide (v6 < (p0.length : Int))) (fun hc14 => ?_) (fun hc14 => ?_)
 · replace hF := of_pos hF hc14
   refine TS.sk (NX.sq (TS.sq (TS.bk 1 (TS.sq (TS.rg (TI.ra 2 [0, 3, 5, 7, 8] (st 19 [(0, sv 0 p0.length ANY), (3, pt 1 0), (5, iv v6), (7, iv (p0.length : Int)), (8, iv v6)]) (TI.dn (NX.sq ?_))))))))
   refine TS.sq ?_
   have hX := of_guard hF
   clear hF
   obtain ⟨hg15, hF⟩ := hX
   have hX := of_do hF
   clear hF
   obtain ⟨o16, h17, hF⟩ := hX
   replace h17 := Option.some.inj h17
   refine TS.dp [] (fun e he => by cases he) mixed 5 [0, 3, 5, 7, 8, 16] [0, 1] (st 19 [(0, sv 0 p0.length ANY), (3, pt 1 0), (5, iv v6), (7, iv (p0.length : Int)), (8, iv v6), (16, .bool (((p1 == o16.1.1) && ((p2 == o16.1.2) && true)) && (((p3 == o16.2.1) && ((p4 == o16.2.2) && true)) && true)))]) (H83_0 p0 p1 p2 p3 p4) ?_ ?_
   · exact QJ.rn (qs (st 19 [(0, sv 0 p0.length ANY), (3, pt 1 0), (5, iv v6), (7, iv (p0.length : Int)), (8, iv v6), (11, ag [iv p1, .bool p2, iv p3, .bool p4]), (12, sv 0 p0.length ANY), (13, iv v6)]) (H83_0 p0 p1 p2 p3 p4) [] []) 3 (QJ.o { val := .pointer (some ⟨0, 0 + (Int.toNat v6) * 4, none⟩) } (q_ixS 0 0 ((Int.toNat v6) * 4) (by kernel_rfl) hg15) (QJ.o { val := ag [iv o16.1.1, .bool o16.1.2, iv o16.2.1, .bool o16.2.2] } (q_nAa Try.prog (H83_0 p0 p1 p2 p3 p4) 86 0 (0 + (Int.toNat v6) * 4) p0 e86 4 86 (Int.toNat v6) ((0, false), (0, false)) h17) (QJ.dn ⟨rfl, (SJ.o { val := .bool (((p1 == o16.1.1) && ((p2 == o16.1.2) && true)) && (((p3 == o16.2.1) && ((p4 == o16.2.2) && true)) && true)) } (q_eq86 (ox := (.tmp 11)) (oy := (.tmp 15)) (by kernel_rfl)) SJ.dn)⟩)))
   refine TS.cd (.tmp 16) (((p1 == o16.1.1) && ((p2 == o16.1.2) && true)) && (((p3 == o16.2.1) && ((p4 == o16.2.2) && true)) && true)) (fun hc18 => ?_) (fun hc18 => ?_)
   · replace hF := of_pos hF hc18
     refine TS.sq (TS.rg (TI.rn 2 [4] [0] (st 19 [(4, iv v6)]) [ab 86 e86 p0, .dead] (TI.dn (NX.sq (TS.rt (NX.bkR (NX.sqR ?_)))))))
     have hF := Option.some.inj hF
     subst hF
     exact Rd.out (e := .ret) (by intro h; cases h) (And.intro rfl (Wk.an [] (.ac (.nil _)) [iv v6] (.fl .nil)))
   replace hF := of_neg hF hc18
   refine TS.sk (NX.bk (NX.sq (TS.rg (TI.ra 2 [0, 3, 7, 8] (st 19 [(0, sv 0 p0.length ANY), (3, pt 1 0), (7, iv (p0.length : Int)), (8, iv (w64 (v6 + 1)))]) (TI.dn ?_)))))
   exact Rd.again (a2 := (st 19 [(0, sv 0 p0.length ANY), (3, pt 1 0), (7, iv (p0.length : Int)), (8, iv (w64 (v6 + 1)))])) (h2 := (H83_0 p0 p1 p2 p3 p4)) (Wk.an [1] (.ac (.lt (.fl (.fl (.fl (.fl .nil)))) (.nil _))) [sv 0 p0.length ANY, pt 1 0, iv (p0.length : Int), iv (w64 (v6 + 1))] (.sl (.pp (.fl (.fl .nil))))) (ih (w64 (v6 + 1)) _ hF)
 replace hF := of_neg hF hc14
 refine TS.ex 0 (NX.sqX ?_)
 have hF := Option.some.inj hF
 subst hF
 exact Rd.out (e := .exit 0) (by intro h; cases h) (And.intro rfl (Wk.an [] (.ac (.nil _)) [] .nil))
theorem B83 (p0 : (List ((Int × Bool) × (Int × Bool)))) (p1 : Int) (p2 : Bool) (p3 : Int) (p4 : Bool) (r : Int) (hF : F83 p0 p1 p2 p3 p4 = some r) : TS Try.prog 1 1 c83 (st 19 [(0, sv 0 p0.length ANY), (1, ag [iv p1, .bool p2, iv p3, .bool p4])]) [ab 86 e86 p0] (NX Try.prog 1 1 [] (FinP Try.prog Try.f83 1 (V83 1 r) (N83 1 r))) := by
 unfold F83 at hF
 refine TS.sq (TS.rg (TI.rn 2 [0, 3] [0, 1] (st 19 [(0, sv 0 p0.length ANY), (3, pt 1 0)]) (H83_0 p0 p1 p2 p3 p4) (TI.dn (NX.sq (TS.sq (TS.sq (TS.rg (TI.ra 3 [0, 3, 7, 8] (st 19 [(0, sv 0 p0.length ANY), (3, pt 1 0), (7, iv (p0.length : Int)), (8, iv 0)]) ?_))))))))
 refine TI.dn (NX.sq (TS.bk 0 ?_))
 have hX := of_do hF
 clear hF
 obtain ⟨r19, h20, hF⟩ := hX
 refine TS.lp (TL.weak (a2 := (st 19 [(0, sv 0 p0.length ANY), (3, pt 1 0), (7, iv (p0.length : Int)), (8, iv 0)])) (h2 := (H83_0 p0 p1 p2 p3 p4)) (Wk.an [1] (.ac (.lt (.fl (.fl (.fl (.fl .nil)))) (.nil _))) [sv 0 p0.length ANY, pt 1 0, iv (p0.length : Int), iv 0] (.sl (.pp (.fl (.fl .nil))))) (TL.post (L83l0 p0 p1 p2 p3 p4 0 r19 h20) ?_))
 rintro e a1 h1 hp
 rcases r19 with o21 | o22
 · skip
   obtain ⟨rfl, hw⟩ := hp
   refine ⟨(st 19 [(4, iv o21)]), [ab 86 e86 p0], (NX.bkR (NX.sqR ?_)), hw⟩
   have hF := Option.some.inj hF
   subst hF
   exact ⟨.inr rfl, rfl, iv o21, by kernel_rfl, WkV.flat0 (by kernel_rfl) (Nat.le_of_ble_eq_true rfl)⟩
 skip
 obtain ⟨rfl, hw⟩ := hp
 refine ⟨(st 19 []), [ab 86 e86 p0], (NX.bkX (NX.sq (TS.sq (TS.rg (TI.ra 1 [4] (st 19 [(4, iv (-1))]) (TI.dn (NX.sq (TS.rt ?_)))))))), hw⟩
 have hF := Option.some.inj hF
 subst hF
 exact ⟨.inr rfl, rfl, iv (-1), by kernel_rfl, WkV.flat0 (by kernel_rfl) (Nat.le_of_ble_eq_true rfl)⟩
theorem C83 (p0 : (List ((Int × Bool) × (Int × Bool)))) (p1 : Int) (p2 : Bool) (p3 : Int) (p4 : Bool) (r : Int) (hF : F83 p0 p1 p2 p3 p4 = some r) : PureSim Try.prog 83 [sv 0 p0.length ANY, ag [iv p1, .bool p2, iv p3, .bool p4]] [ab 86 e86 p0] (V83 1 r) (N83 1 r) :=
 PureSim.of_Fin Try.func83 (c := c83) (by kernel_rfl) (by kernel_rfl) 1 rfl [0, 1] [0] (by kernel_rfl) (B83 p0 p1 p2 p3 p4 r hF)
noncomputable def c73 : Code := Try.f73.code
def F73 (p0 : (List ((Int × Bool) × (Int × Bool)))) (p1 : Int) (p2 : Bool) (p3 : Int) (p4 : Bool) : Option Bool :=
 F83 p0 p1 p2 p3 p4 >>= fun r1 =>
 some (decide (r1 ≥ 0))
def V73 (b : Nat) (r : Bool) : Value := .bool r
def N73 (b : Nat) (r : Bool) : List Blk := []
theorem B73 (p0 : (List ((Int × Bool) × (Int × Bool)))) (p1 : Int) (p2 : Bool) (p3 : Int) (p4 : Bool) (r : Bool) (hF : F73 p0 p1 p2 p3 p4 = some r) : TS Try.prog 1 1 c73 (st 9 [(0, sv 0 p0.length ANY), (1, ag [iv p1, .bool p2, iv p3, .bool p4])]) [ab 86 e86 p0] (NX Try.prog 1 1 [] (FinP Try.prog Try.f73 1 (V73 1 r) (N73 1 r))) := by
 unfold F73 at hF
 refine TS.sq (TS.rg (TI.rn 2 [0, 3] [0, 1] (st 9 [(0, sv 0 p0.length ANY), (3, pt 1 0)]) [ab 86 e86 p0, cl 86 [iv p1, .bool p2, iv p3, .bool p4]] (TI.dn (NX.sq (TS.sq ?_)))))
 have hX := of_do hF
 clear hF
 obtain ⟨r1, h2, hF⟩ := hX
 refine TS.rg (TI.rn 2 [5, 6] [0] (st 9 [(5, sv 0 p0.length ANY), (6, ag [iv p1, .bool p2, iv p3, .bool p4])]) [ab 86 e86 p0, .dead] (TI.cp 83 [sv 0 p0.length ANY, ag [iv p1, .bool p2, iv p3, .bool p4]] (iv r1) [] (PureSim.ren (hc := [ab 86 e86 p0]) (fun i => List.getD [(0, 0)] i (0, 0)) (C83 _ _ _ _ _ _ h2) (.ac (.nil _)) (.cons (Rn.any _ _ _ _ _ _ (Nat.le_of_ble_eq_true rfl) rfl rfl (by decide)) (.fl .nil)) (.flat (by kernel_rfl)) newflat_nil) (TI.ra 2 [4] (st 9 [(4, .bool (decide (r1 ≥ 0)))]) (TI.dn (NX.sq (TS.rt ?_))))))
 have hF := Option.some.inj hF
 subst hF
 exact ⟨.inr rfl, rfl, .bool (decide (r1 ≥ 0)), by kernel_rfl, WkV.flat0 (by kernel_rfl) (Nat.le_of_ble_eq_true rfl)⟩
theorem C73 (p0 : (List ((Int × Bool) × (Int × Bool)))) (p1 : Int) (p2 : Bool) (p3 : Int) (p4 : Bool) (r : Bool) (hF : F73 p0 p1 p2 p3 p4 = some r) : PureSim Try.prog 73 [sv 0 p0.length ANY, ag [iv p1, .bool p2, iv p3, .bool p4]] [ab 86 e86 p0] (V73 1 r) (N73 1 r) :=
 PureSim.of_Fin Try.func73 (c := c73) (by kernel_rfl) (by kernel_rfl) 1 rfl [0, 1] [0] (by kernel_rfl) (B73 p0 p1 p2 p3 p4 r hF)
noncomputable def c30 : Code := Try.f30.code
def S30_0 (p2 : (List (Int × Bool))) (v26 : Int) (p1 : (List ((Int × Bool) × (Int × Bool)))) (r51 : (Int × Bool)) (o46 : (Int × Bool)) : CAct := (st 58 [(1, sv 1 p2.length ANY), (2, pt 2 0), (7, pt 3 0), (8, pt 4 0), (29, .slice (some ⟨1, 0 + Int.toNat 1 * 2, none⟩) (List.length (List.drop (Int.toNat 1) p2)) ANY), (30, iv (List.length (List.drop (Int.toNat 1) p2) : Int)), (31, iv v26), (42, sv 0 p1.length ANY), (45, ag [iv r51.1, .bool r51.2, iv o46.1, .bool o46.2])])
def S30_1 (p2 : (List (Int × Bool))) (v26 : Int) (r53 : Bool) : CAct := (st 58 [(1, sv 1 p2.length ANY), (2, pt 2 0), (7, pt 3 0), (8, pt 4 0), (29, .slice (some ⟨1, 0 + Int.toNat 1 * 2, none⟩) (List.length (List.drop (Int.toNat 1) p2)) ANY), (30, iv (List.length (List.drop (Int.toNat 1) p2) : Int)), (31, iv v26), (46, .bool r53)])
def S30_2 (p2 : (List (Int × Bool))) (v26 : Int) : CAct := (st 58 [(1, sv 1 p2.length ANY), (2, pt 2 0), (29, .slice (some ⟨1, 0 + Int.toNat 1 * 2, none⟩) (List.length (List.drop (Int.toNat 1) p2)) ANY), (30, iv (List.length (List.drop (Int.toNat 1) p2) : Int)), (31, iv (w64 (v26 + 1)))])
def S30_3 (p2 : (List (Int × Bool))) (v26 : Int) : CAct := (st 58 [(1, sv 1 p2.length ANY), (2, pt 2 0), (29, .slice (some ⟨1, 0 + Int.toNat 1 * 2, none⟩) (List.length (List.drop (Int.toNat 1) p2)) ANY), (30, iv (List.length (List.drop (Int.toNat 1) p2) : Int)), (31, iv v26)])
def S30_4 (p2 : (List (Int × Bool))) : CAct := (st 58 [(1, sv 1 p2.length ANY), (2, pt 2 0), (29, .slice (some ⟨1, 0 + Int.toNat 1 * 2, none⟩) (List.length (List.drop (Int.toNat 1) p2)) ANY), (30, iv (List.length (List.drop (Int.toNat 1) p2) : Int)), (31, iv 0)])
def H30_5 (p1 : (List ((Int × Bool) × (Int × Bool)))) (p2 : (List (Int × Bool))) (p0 : Int) (o46 : (Int × Bool)) (r51 : (Int × Bool)) : List Blk := [ab 86 e86 p1, ab 50 e50 p2, cl 24 [iv p0, sv 0 p1.length ANY], cl 50 [iv o46.1, .bool o46.2], cl 50 [iv r51.1, .bool r51.2]]
def H30_6 (p1 : (List ((Int × Bool) × (Int × Bool)))) (p2 : (List (Int × Bool))) (p0 : Int) (o46 : (Int × Bool)) : List Blk := [ab 86 e86 p1, ab 50 e50 p2, cl 24 [iv p0, sv 0 p1.length ANY], cl 50 [iv o46.1, .bool o46.2]]
def H30_7 (p1 : (List ((Int × Bool) × (Int × Bool)))) (p2 : (List (Int × Bool))) (p0 : Int) : List Blk := [ab 86 e86 p1, ab 50 e50 p2, cl 24 [iv p0, sv 0 p1.length ANY], .dead, .dead]
def H30_8 (p1 : (List ((Int × Bool) × (Int × Bool)))) (p2 : (List (Int × Bool))) (p0 : Int) : List Blk := [ab 86 e86 p1, ab 50 e50 p2, cl 24 [iv p0, sv 0 p1.length ANY]]
def H30_9 (p1 : (List ((Int × Bool) × (Int × Bool)))) (p2 : (List (Int × Bool))) : List Blk := [ab 86 e86 p1, ab 50 e50 p2, .dead]
def H30_10 (p1 : (List ((Int × Bool) × (Int × Bool)))) (p2 : (List (Int × Bool))) : List Blk := [ab 86 e86 p1, ab 50 e50 p2]
def F30l0 (p0 : Int) (p1 : (List ((Int × Bool) × (Int × Bool)))) (p2 : (List (Int × Bool))) (v26 : Int) : Option (Unit ⊕ Unit) :=
 if decide (v26 < (List.length (List.drop (Int.toNat 1) p2) : Int)) then
  if (0 : Int) ≤ v26 ∧ v26 < (List.length (List.drop (Int.toNat 1) p2) : Int) then
   some (List.getD (List.drop (Int.toNat 1) p2) (Int.toNat v26) (0, false)) >>= fun o46 =>
   if (0 : Int) ≤ v26 ∧ v26 < (p2.length : Int) then
    some (List.getD p2 (Int.toNat v26) (0, false)) >>= fun o49 =>
    F72 o49.1 o49.2 >>= fun r51 =>
    F73 p1 r51.1 r51.2 o46.1 o46.2 >>= fun r53 =>
    (
     if !r53 then
      F73 p1 o46.1 o46.2 r51.1 r51.2 >>= fun r56 =>
      some (!r56)
     else
      some (false)
    : Option Bool) >>= fun m58 =>
    if m58 then
     some (.inl ())
    else
     F30l0 p0 p1 p2 (w64 (v26 + 1))
   else none
  else none
 else
  some (.inr ())
 partial_fixpoint
def F30 (p0 : Int) (p1 : (List ((Int × Bool) × (Int × Bool)))) (p2 : (List (Int × Bool))) : Option Int :=
 F26 p0 p1 >>= fun r1 =>
 if r1 != 0 then
  some r1
 else
  if (p2.length : Int) == 0 then
   some 2
  else
   if decide ((p2.length : Int) > 100) then
    some 3
   else
    F64 p0 p1 p2 >>= fun r6 =>
    if !r6 then
     some 6
    else
     if (0 : Int) ≤ 1 ∧ 1 ≤ (p2.length : Int) then
      F30l0 p0 p1 p2 0 >>= fun r60 =>
      match r60 with
      | .inl o62 =>
       some 14
      | .inr o63 =>
       some 0
     else none
def V30 (b : Nat) (r : Int) : Value := iv r
def N30 (b : Nat) (r : Int) : List Blk := []
def P30l0 (p0 : Int) (p1 : (List ((Int × Bool) × (Int × Bool)))) (p2 : (List (Int × Bool))) (r : (Unit ⊕ Unit)) : Post := fun e a h => (match r with | .inl q0 => e = .ret ∧ Wk Try.prog 2 2 a h (st 58 [(4, iv 14)]) (H30_10 p1 p2) | .inr q0 => e = .exit 1 ∧ Wk Try.prog 2 2 a h (st 58 []) (H30_10 p1 p2))
theorem L30l0 (p0 : Int) (p1 : (List ((Int × Bool) × (Int × Bool)))) (p2 : (List (Int × Bool))) (v26 : Int) (r : (Unit ⊕ Unit)) (hF : F30l0 p0 p1 p2 v26 = some r) : TL Try.prog 2 2 c30.s2.s2.s2.s1.s2.bd.bd (S30_3 p2 v26) (H30_8 p1 p2 p0) (P30l0 p0 p1 p2 r) := by
 refine F30l0.partial_correctness p0 p1 p2 (motive := fun v26 r => TL Try.prog 2 2 c30.s2.s2.s2.s1.s2.bd.bd (S30_3 p2 v26) (H30_8 p1 p2 p0) (P30l0 p0 p1 p2 r)) ?_ v26 r hF
 clear hF r v26
 intro again ih v26 r hF
 refine TL.round (TS.sq (TS.rg (TI.ra 1 [1, 2, 29, 30, 31, 32] (st 58 [(1, sv 1 p2.length ANY), (2, pt 2 0), (29, .slice (some ⟨1, 0 + Int.toNat 1 * 2, none⟩) (List.length (List.drop (Int.toNat 1) p2)) ANY), (30, iv (List.length (List.drop (Int.toNat 1) p2) : Int)), (31, iv v26), (32, .bool (decide (v26 < (List.length (List.drop (Int.toNat 1) p2) : Int))))]) (TI.dn (NX.sq (TS.sq ?_))))))
 refine TS.cd (.tmp 32) (decide (v26 < (List.length (List.drop (Int.toNat 1) p2) : Int))) (fun hc44 => ?_) (fun hc44 => ?_)
 · replace hF := of_pos hF hc44
   refine TS.sk (NX.sq (TS.sq (TS.bk 2 (TS.sq ?_))))
   have hX := of_guard hF
   clear hF
   obtain ⟨hg45, hF⟩ := hX
   have hX := of_do hF
   clear hF
   obtain ⟨o46, h47, hF⟩ := hX
   replace h47 := Option.some.inj h47
   refine TS.rg (TI.ra 1 [1, 2, 29, 30, 31, 33] (st 58 [(1, sv 1 p2.length ANY), (2, pt 2 0), (29, .slice (some ⟨1, 0 + Int.toNat 1 * 2, none⟩) (List.length (List.drop (Int.toNat 1) p2)) ANY), (30, iv (List.length (List.drop (Int.toNat 1) p2) : Int)), (31, iv v26), (33, iv v26)]) (TI.o { val := .pointer (some ⟨1, 0 + Int.toNat 1 * 2 + (Int.toNat v26) * 2, none⟩) } (q_ixS 1 (0 + Int.toNat 1 * 2) ((Int.toNat v26) * 2) (by kernel_rfl) hg45) [1, 2, 29, 30, 31, 33, 34] [0, 1, 2] (st 58 [(1, sv 1 p2.length ANY), (2, pt 2 0), (29, .slice (some ⟨1, 0 + Int.toNat 1 * 2, none⟩) (List.length (List.drop (Int.toNat 1) p2)) ANY), (30, iv (List.length (List.drop (Int.toNat 1) p2) : Int)), (31, iv v26), (33, iv v26), (34, .pointer (some ⟨1, 0 + Int.toNat 1 * 2 + (Int.toNat v26) * 2, none⟩))]) (H30_8 p1 p2 p0) ?_))
   refine TI.o { val := ag [iv o46.1, .bool o46.2] } (q_eqv (q_ldAW (P := Try.prog) (hp := (H30_8 p1 p2 p0)) (t := 50) (b := 1) (o := 0 + Int.toNat 1 * 2 + (Int.toNat v26) * 2) (off := 0 + Int.toNat 1 * 2) (L := p2) (ys := List.drop (Int.toNat 1) p2) (enc := e50) (s := 2) (T := 50) (i := Int.toNat v26) (win_drop win_all _) (holds_acc (hp := (H30_8 p1 p2 p0)) (b := 1) (T := 50) (enc := e50) (L := p2) (by kernel_rfl)) (by kernel_rfl) (by kernel_rfl) (by kernel_rfl) (fun _ => rfl) rfl (by first | omega | (simp <;> omega)) (0, false)) (congrArg (fun (z : (Int × Bool)) => ({ val := ag [iv z.1, .bool z.2] } : QRes)) h47)) [1, 2, 29, 30, 31, 33, 35] [0, 1, 2] (st 58 [(1, sv 1 p2.length ANY), (2, pt 2 0), (29, .slice (some ⟨1, 0 + Int.toNat 1 * 2, none⟩) (List.length (List.drop (Int.toNat 1) p2)) ANY), (30, iv (List.length (List.drop (Int.toNat 1) p2) : Int)), (31, iv v26), (33, iv v26), (35, ag [iv o46.1, .bool o46.2])]) (H30_8 p1 p2 p0) (TI.rn 3 [1, 2, 6, 7, 29, 30, 31] [0, 1, 2, 3] (st 58 [(1, sv 1 p2.length ANY), (2, pt 2 0), (6, iv v26), (7, pt 3 0), (29, .slice (some ⟨1, 0 + Int.toNat 1 * 2, none⟩) (List.length (List.drop (Int.toNat 1) p2)) ANY), (30, iv (List.length (List.drop (Int.toNat 1) p2) : Int)), (31, iv v26)]) (H30_6 p1 p2 p0 o46) (TI.dn (NX.sq (TS.sq ?_))))
   have hX := of_guard hF
   clear hF
   obtain ⟨hg48, hF⟩ := hX
   have hX := of_do hF
   clear hF
   obtain ⟨o49, h50, hF⟩ := hX
   replace h50 := Option.some.inj h50
   have hX := of_do hF
   clear hF
   obtain ⟨r51, h52, hF⟩ := hX
   refine TS.rg (TI.ra 2 [1, 2, 7, 29, 30, 31, 36, 37] (st 58 [(1, sv 1 p2.length ANY), (2, pt 2 0), (7, pt 3 0), (29, .slice (some ⟨1, 0 + Int.toNat 1 * 2, none⟩) (List.length (List.drop (Int.toNat 1) p2)) ANY), (30, iv (List.length (List.drop (Int.toNat 1) p2) : Int)), (31, iv v26), (36, sv 1 p2.length ANY), (37, iv v26)]) (TI.o { val := .pointer (some ⟨1, 0 + (Int.toNat v26) * 2, none⟩) } (q_ixS 1 0 ((Int.toNat v26) * 2) (by kernel_rfl) hg48) [1, 2, 7, 29, 30, 31, 38] [0, 1, 2, 3] (st 58 [(1, sv 1 p2.length ANY), (2, pt 2 0), (7, pt 3 0), (29, .slice (some ⟨1, 0 + Int.toNat 1 * 2, none⟩) (List.length (List.drop (Int.toNat 1) p2)) ANY), (30, iv (List.length (List.drop (Int.toNat 1) p2) : Int)), (31, iv v26), (38, .pointer (some ⟨1, 0 + (Int.toNat v26) * 2, none⟩))]) (H30_6 p1 p2 p0 o46) (TI.o { val := ag [iv o49.1, .bool o49.2] } (q_nAa Try.prog (H30_6 p1 p2 p0 o46) 50 1 (0 + (Int.toNat v26) * 2) p2 e50 2 50 (Int.toNat v26) (0, false) h50) [1, 2, 7, 29, 30, 31, 39] [0, 1, 2, 3] (st 58 [(1, sv 1 p2.length ANY), (2, pt 2 0), (7, pt 3 0), (29, .slice (some ⟨1, 0 + Int.toNat 1 * 2, none⟩) (List.length (List.drop (Int.toNat 1) p2)) ANY), (30, iv (List.length (List.drop (Int.toNat 1) p2) : Int)), (31, iv v26), (39, ag [iv o49.1, .bool o49.2])]) (H30_6 p1 p2 p0 o46) (TI.cf (C72 _ _ _ h52) (TI.rn 2 [1, 2, 7, 8, 29, 30, 31] [0, 1, 2, 3, 4] (st 58 [(1, sv 1 p2.length ANY), (2, pt 2 0), (7, pt 3 0), (8, pt 4 0), (29, .slice (some ⟨1, 0 + Int.toNat 1 * 2, none⟩) (List.length (List.drop (Int.toNat 1) p2)) ANY), (30, iv (List.length (List.drop (Int.toNat 1) p2) : Int)), (31, iv v26)]) (H30_5 p1 p2 p0 o46 r51) (TI.dn (NX.sq (TS.sq ?_))))))))
   have hX := of_do hF
   clear hF
   obtain ⟨r53, h54, hF⟩ := hX
   have hX := of_do hF
   clear hF
   obtain ⟨m58, hm59, hF⟩ := hX
   have hK : NX Try.prog 2 2 [.sq c30.s2.s2.s2.s1.s2.bd.bd.s2.s2.s1.bd.s2.s2.s2, .bk 2, .sq c30.s2.s2.s2.s1.s2.bd.bd.s2.s2.s2] (Rd Try.prog 2 2 c30.s2.s2.s2.s1.s2.bd.bd (P30l0 p0 p1 p2 r)) .normal (st 58 [(1, sv 1 p2.length ANY), (2, pt 2 0), (29, .slice (some ⟨1, 0 + Int.toNat 1 * 2, none⟩) (List.length (List.drop (Int.toNat 1) p2)) ANY), (30, iv (List.length (List.drop (Int.toNat 1) p2) : Int)), (31, iv v26), (56, .bool m58)]) (H30_7 p1 p2 p0) := by
    refine NX.sq ?_
    cases m58 with
    | true =>
     replace hF := of_pos hF rfl
     refine TS.cdT (.tmp 56) (TS.sq (TS.rg (TI.rn 1 [4] [0, 1] (st 58 [(4, iv 14)]) [ab 86 e86 p1, ab 50 e50 p2, .dead, .dead, .dead] (TI.dn (NX.sq (TS.rt (NX.bkR (NX.sqR ?_))))))))
     have hF := Option.some.inj hF
     subst hF
     exact Rd.out (e := .ret) (by intro h; cases h) (And.intro rfl (Wk.an [] (.ac (.ac (.nil _))) [iv 14] (.fl .nil)))
    | false =>
     replace hF := of_neg hF rfl
     refine TS.cdF (.tmp 56) (TS.sk (NX.bk (NX.sq (TS.rg (TI.ra 2 [1, 2, 29, 30, 31] (S30_2 p2 v26) (TI.dn ?_))))))
     exact Rd.again (a2 := (S30_2 p2 v26)) (h2 := (H30_8 p1 p2 p0)) (Wk.an [2] (.ac (.ac (.lt (.fl (.sl .nil)) (.nil _)))) [sv 1 p2.length ANY, pt 2 0, .slice (some ⟨1, 0 + Int.toNat 1 * 2, none⟩) (List.length (List.drop (Int.toNat 1) p2)) ANY, iv (List.length (List.drop (Int.toNat 1) p2) : Int), iv (w64 (v26 + 1))] (.sl (.pp (.sl (.fl (.fl .nil)))))) (ih (w64 (v26 + 1)) _ hF)
   rcases Bool.eq_false_or_eq_true (!r53) with hc55 | hc55
   · replace hm59 := of_pos hm59 hc55
     have hX := of_do hm59
     clear hm59
     obtain ⟨r56, h57, hm59⟩ := hX
     have hm59 := Option.some.inj hm59
     subst hm59
     exact TS.rg (TI.ra 5 [1, 2, 7, 8, 29, 30, 31, 42, 45] (S30_0 p2 v26 p1 r51 o46) (TI.callM (g := 73) (args := [sv 0 p1.length ANY, ag [iv r51.1, .bool r51.2, iv o46.1, .bool o46.2]]) (v := .bool r53) (new := []) (by kernel_rfl) (PureSim.ren (hc := [ab 86 e86 p1]) (fun i => List.getD [(0, 0)] i (0, 0)) (C73 _ _ _ _ _ _ h54) (.ac (.nil _)) (.cons (Rn.any _ _ _ _ _ _ (Nat.le_of_ble_eq_true rfl) rfl rfl (by decide)) (.fl .nil)) (.flat (by kernel_rfl)) newflat_nil) [1, 2, 7, 8, 29, 30, 31, 46] [0, 1, 2, 3, 4] (a2 := (S30_1 p2 v26 r53)) (h2 := (H30_5 p1 p2 p0 o46 r51)) (by kernel_rfl) (TI.o { val := .bool true } (q_conv (e := !r53) (b := true) (by kernel_rfl) hc55) [1, 2, 7, 8, 29, 30, 31, 47] [0, 1, 2, 3, 4] (st 58 [(1, sv 1 p2.length ANY), (2, pt 2 0), (7, pt 3 0), (8, pt 4 0), (29, .slice (some ⟨1, 0 + Int.toNat 1 * 2, none⟩) (List.length (List.drop (Int.toNat 1) p2)) ANY), (30, iv (List.length (List.drop (Int.toNat 1) p2) : Int)), (31, iv v26), (47, .bool true)]) (H30_5 p1 p2 p0 o46 r51) (TI.rn 6 [1, 2, 29, 30, 31, 48, 50, 53] [0, 1, 2] (st 58 [(1, sv 1 p2.length ANY), (2, pt 2 0), (29, .slice (some ⟨1, 0 + Int.toNat 1 * 2, none⟩) (List.length (List.drop (Int.toNat 1) p2)) ANY), (30, iv (List.length (List.drop (Int.toNat 1) p2) : Int)), (31, iv v26), (48, .bool true), (50, sv 0 p1.length ANY), (53, ag [iv o46.1, .bool o46.2, iv r51.1, .bool r51.2])]) (H30_7 p1 p2 p0) (TI.cp 73 [sv 0 p1.length ANY, ag [iv o46.1, .bool o46.2, iv r51.1, .bool r51.2]] (.bool r56) [] (PureSim.ren (hc := [ab 86 e86 p1]) (fun i => List.getD [(0, 0)] i (0, 0)) (C73 _ _ _ _ _ _ h57) (.ac (.nil _)) (.cons (Rn.any _ _ _ _ _ _ (Nat.le_of_ble_eq_true rfl) rfl rfl (by decide)) (.fl .nil)) (.flat (by kernel_rfl)) newflat_nil) (TI.ra 2 [1, 2, 29, 30, 31, 56] (st 58 [(1, sv 1 p2.length ANY), (2, pt 2 0), (29, .slice (some ⟨1, 0 + Int.toNat 1 * 2, none⟩) (List.length (List.drop (Int.toNat 1) p2)) ANY), (30, iv (List.length (List.drop (Int.toNat 1) p2) : Int)), (31, iv v26), (56, .bool (!r56))]) (TI.dn hK)))))))
   replace hm59 := of_neg hm59 hc55
   have hm59 := Option.some.inj hm59
   subst hm59
   exact TS.rg (TI.ra 5 [1, 2, 7, 8, 29, 30, 31, 42, 45] (S30_0 p2 v26 p1 r51 o46) (TI.callM (g := 73) (args := [sv 0 p1.length ANY, ag [iv r51.1, .bool r51.2, iv o46.1, .bool o46.2]]) (v := .bool r53) (new := []) (by kernel_rfl) (PureSim.ren (hc := [ab 86 e86 p1]) (fun i => List.getD [(0, 0)] i (0, 0)) (C73 _ _ _ _ _ _ h54) (.ac (.nil _)) (.cons (Rn.any _ _ _ _ _ _ (Nat.le_of_ble_eq_true rfl) rfl rfl (by decide)) (.fl .nil)) (.flat (by kernel_rfl)) newflat_nil) [1, 2, 7, 8, 29, 30, 31, 46] [0, 1, 2, 3, 4] (a2 := (S30_1 p2 v26 r53)) (h2 := (H30_5 p1 p2 p0 o46 r51)) (by kernel_rfl) (TI.o { val := .bool false } (q_conv (e := !r53) (b := false) (by kernel_rfl) hc55) [1, 2, 7, 8, 29, 30, 31, 47] [0, 1, 2, 3, 4] (st 58 [(1, sv 1 p2.length ANY), (2, pt 2 0), (7, pt 3 0), (8, pt 4 0), (29, .slice (some ⟨1, 0 + Int.toNat 1 * 2, none⟩) (List.length (List.drop (Int.toNat 1) p2)) ANY), (30, iv (List.length (List.drop (Int.toNat 1) p2) : Int)), (31, iv v26), (47, .bool false)]) (H30_5 p1 p2 p0 o46 r51) (TI.rn 9 [1, 2, 29, 30, 31, 56] [0, 1, 2] (st 58 [(1, sv 1 p2.length ANY), (2, pt 2 0), (29, .slice (some ⟨1, 0 + Int.toNat 1 * 2, none⟩) (List.length (List.drop (Int.toNat 1) p2)) ANY), (30, iv (List.length (List.drop (Int.toNat 1) p2) : Int)), (31, iv v26), (56, .bool false)]) (H30_7 p1 p2 p0) (TI.dn hK)))))
 replace hF := of_neg hF hc44
 refine TS.ex 1 (NX.sqX ?_)
 have hF := Option.some.inj hF
 subst hF
 exact Rd.out (e := .exit 1) (by intro h; cases h) (And.intro rfl (Wk.an [] (.ac (.ac (.nil _))) [] .nil))
theorem B30 (p0 : Int) (p1 : (List ((Int × Bool) × (Int × Bool)))) (p2 : (List (Int × Bool))) (r : Int) (hF : F30 p0 p1 p2 = some r) : TS Try.prog 2 2 c30 (st 58 [(0, ag [iv p0, sv 0 p1.length ANY]), (1, sv 1 p2.length ANY)]) (H30_10 p1 p2) (NX Try.prog 2 2 [] (FinP Try.prog Try.f30 2 (V30 2 r) (N30 2 r))) := by
 unfold F30 at hF
 refine TS.sq (TS.rg (TI.rn 2 [1, 2] [0, 1, 2] (st 58 [(1, sv 1 p2.length ANY), (2, pt 2 0)]) (H30_8 p1 p2 p0) (TI.dn (NX.sq (TS.sq ?_)))))
 have hX := of_do hF
 clear hF
 obtain ⟨r1, h2, hF⟩ := hX
 refine TS.rg (TI.ra 1 [1, 2, 9] (st 58 [(1, sv 1 p2.length ANY), (2, pt 2 0), (9, ag [iv p0, sv 0 p1.length ANY])]) (TI.cp 26 [ag [iv p0, sv 0 p1.length ANY]] (iv r1) [] (PureSim.ren (hc := [ab 86 e86 p1]) (fun i => List.getD [(0, 0)] i (0, 0)) (C26 _ _ _ h2) (.ac (.nil _)) (.cons (Rn.agg' (.fl (.cons (Rn.any _ _ _ _ _ _ (Nat.le_of_ble_eq_true rfl) rfl rfl (by decide)) .nil))) .nil) (.flat (by kernel_rfl)) newflat_nil) (TI.ra 1 [1, 2, 5] (st 58 [(1, sv 1 p2.length ANY), (2, pt 2 0), (5, iv r1)]) (TI.dn (NX.sq (TS.sq (TS.bk 0 (TS.sq ?_))))))))
 refine TS.rg (TI.ra 3 [1, 2, 5, 11] (st 58 [(1, sv 1 p2.length ANY), (2, pt 2 0), (5, iv r1), (11, .bool (r1 != 0))]) (TI.dn (NX.sq ?_)))
 refine TS.cd (.tmp 11) (r1 != 0) (fun hc3 => ?_) (fun hc3 => ?_)
 · replace hF := of_pos hF hc3
   refine TS.sq (TS.rg (TI.rn 2 [4] [0, 1] (st 58 [(4, iv r1)]) (H30_9 p1 p2) (TI.dn (NX.sq (TS.rt (NX.bkR (NX.sqR ?_)))))))
   have hF := Option.some.inj hF
   subst hF
   exact ⟨.inr rfl, rfl, iv r1, by kernel_rfl, WkV.flat0 (by kernel_rfl) (Nat.le_of_ble_eq_true rfl)⟩
 replace hF := of_neg hF hc3
 refine TS.sq (TS.rg (TI.ra 4 [1, 2, 15] (st 58 [(1, sv 1 p2.length ANY), (2, pt 2 0), (15, .bool ((p2.length : Int) == 0))]) (TI.dn (NX.sq ?_))))
 refine TS.cd (.tmp 15) ((p2.length : Int) == 0) (fun hc4 => ?_) (fun hc4 => ?_)
 · replace hF := of_pos hF hc4
   refine TS.sq (TS.rg (TI.rn 1 [4] [0, 1] (st 58 [(4, iv 2)]) (H30_9 p1 p2) (TI.dn (NX.sq (TS.rt (NX.bkR (NX.sqR ?_)))))))
   have hF := Option.some.inj hF
   subst hF
   exact ⟨.inr rfl, rfl, iv 2, by kernel_rfl, WkV.flat0 (by kernel_rfl) (Nat.le_of_ble_eq_true rfl)⟩
 replace hF := of_neg hF hc4
 refine TS.sq (TS.rg (TI.ra 4 [1, 2, 19] (st 58 [(1, sv 1 p2.length ANY), (2, pt 2 0), (19, .bool (decide ((p2.length : Int) > 100)))]) (TI.dn (NX.sq ?_))))
 refine TS.cd (.tmp 19) (decide ((p2.length : Int) > 100)) (fun hc5 => ?_) (fun hc5 => ?_)
 · replace hF := of_pos hF hc5
   refine TS.sq (TS.rg (TI.rn 1 [4] [0, 1] (st 58 [(4, iv 3)]) (H30_9 p1 p2) (TI.dn (NX.sq (TS.rt (NX.bkR (NX.sqR ?_)))))))
   have hF := Option.some.inj hF
   subst hF
   exact ⟨.inr rfl, rfl, iv 3, by kernel_rfl, WkV.flat0 (by kernel_rfl) (Nat.le_of_ble_eq_true rfl)⟩
 replace hF := of_neg hF hc5
 refine TS.sq ?_
 have hX := of_do hF
 clear hF
 obtain ⟨r6, h7, hF⟩ := hX
 refine TS.rg (TI.ra 2 [1, 2, 24, 25] (st 58 [(1, sv 1 p2.length ANY), (2, pt 2 0), (24, ag [iv p0, sv 0 p1.length ANY]), (25, sv 1 p2.length ANY)]) (TI.cp 64 [ag [iv p0, sv 0 p1.length ANY], sv 1 p2.length ANY] (.bool r6) [] (PureSim.ren (hc := (H30_10 p1 p2)) (fun i => List.getD [(0, 0), (1, 0)] i (0, 0)) (C64 _ _ _ _ h7) (.ac (.ac (.nil _))) (.cons (Rn.agg' (.fl (.cons (Rn.any _ _ _ _ _ _ (Nat.le_of_ble_eq_true rfl) rfl rfl (by decide)) .nil))) (.cons (Rn.any _ _ _ _ _ _ (Nat.le_of_ble_eq_true rfl) rfl rfl (by decide)) .nil)) (.flat (by kernel_rfl)) newflat_nil) (TI.ra 2 [1, 2, 23] (st 58 [(1, sv 1 p2.length ANY), (2, pt 2 0), (23, .bool (!r6))]) (TI.dn (NX.sq ?_)))))
 refine TS.cd (.tmp 23) (!r6) (fun hc8 => ?_) (fun hc8 => ?_)
 · replace hF := of_pos hF hc8
   refine TS.sq (TS.rg (TI.rn 1 [4] [0, 1] (st 58 [(4, iv 6)]) (H30_9 p1 p2) (TI.dn (NX.sq (TS.rt (NX.bkR (NX.sqR ?_)))))))
   have hF := Option.some.inj hF
   subst hF
   exact ⟨.inr rfl, rfl, iv 6, by kernel_rfl, WkV.flat0 (by kernel_rfl) (Nat.le_of_ble_eq_true rfl)⟩
 replace hF := of_neg hF hc8
 refine TS.sk (NX.bk (NX.sq (TS.sq (TS.sq ?_))))
 have hX := of_guard hF
 clear hF
 obtain ⟨hg9, hF⟩ := hX
 refine TS.rg (TI.ra 1 [1, 2, 28] (st 58 [(1, sv 1 p2.length ANY), (2, pt 2 0), (28, sv 1 p2.length ANY)]) (TI.o { val := .slice (some ⟨1, 0 + Int.toNat 1 * 2, none⟩) (List.length (List.drop (Int.toNat 1) p2)) ANY } (q_slAlo (P := Try.prog) (t := 25) (e := 50) (s := 2) (b := 1) (off := 0) (ys := p2) (k := .i64) (y := 1) (by kernel_rfl) (by kernel_rfl) (by kernel_rfl) hg9) [1, 2, 29] [0, 1, 2] (st 58 [(1, sv 1 p2.length ANY), (2, pt 2 0), (29, .slice (some ⟨1, 0 + Int.toNat 1 * 2, none⟩) (List.length (List.drop (Int.toNat 1) p2)) ANY)]) (H30_8 p1 p2 p0) (TI.ra 2 [1, 2, 29, 30, 31] (S30_4 p2) (TI.dn (NX.sq (TS.bk 1 ?_))))))
 have hX := of_do hF
 clear hF
 obtain ⟨r60, h61, hF⟩ := hX
 refine TS.lp (TL.weak (a2 := (S30_4 p2)) (h2 := (H30_8 p1 p2 p0)) (Wk.an [2] (.ac (.ac (.lt (.fl (.sl .nil)) (.nil _)))) [sv 1 p2.length ANY, pt 2 0, .slice (some ⟨1, 0 + Int.toNat 1 * 2, none⟩) (List.length (List.drop (Int.toNat 1) p2)) ANY, iv (List.length (List.drop (Int.toNat 1) p2) : Int), iv 0] (.sl (.pp (.sl (.fl (.fl .nil)))))) (TL.post (L30l0 p0 p1 p2 0 r60 h61) ?_))
 rintro e a1 h1 hp
 rcases r60 with o62 | o63
 · skip
   obtain ⟨rfl, hw⟩ := hp
   refine ⟨(st 58 [(4, iv 14)]), (H30_10 p1 p2), (NX.bkR (NX.sqR ?_)), hw⟩
   have hF := Option.some.inj hF
   subst hF
   exact ⟨.inr rfl, rfl, iv 14, by kernel_rfl, WkV.flat0 (by kernel_rfl) (Nat.le_of_ble_eq_true rfl)⟩
 skip
 obtain ⟨rfl, hw⟩ := hp
 refine ⟨(st 58 []), (H30_10 p1 p2), (NX.bkX (NX.sq (TS.sq (TS.rg (TI.ra 1 [4] (st 58 [(4, iv 0)]) (TI.dn (NX.sq (TS.rt ?_)))))))), hw⟩
 have hF := Option.some.inj hF
 subst hF
 exact ⟨.inr rfl, rfl, iv 0, by kernel_rfl, WkV.flat0 (by kernel_rfl) (Nat.le_of_ble_eq_true rfl)⟩
theorem C30 (p0 : Int) (p1 : (List ((Int × Bool) × (Int × Bool)))) (p2 : (List (Int × Bool))) (r : Int) (hF : F30 p0 p1 p2 = some r) : PureSim Try.prog 30 [ag [iv p0, sv 0 p1.length ANY], sv 1 p2.length ANY] (H30_10 p1 p2) (V30 2 r) (N30 2 r) :=
 PureSim.of_Fin Try.func30 (c := c30) (by kernel_rfl) (by kernel_rfl) 2 rfl [0, 1] [0, 1] (by kernel_rfl) (B30 p0 p1 p2 r hF)
end
end Go.Proofs.Ytiaippkjgmccoaa
