/- What functions of the program compute, and that they do. -/
import Derived.Test.YthpfffijnkmdgaaCR
set_option linter.unusedVariables false
set_option linter.unusedSimpArgs false
set_option maxRecDepth 100000
set_option maxHeartbeats 4000000
namespace Go.Proofs.Ythpfffijnkmdgaa
open Go Go.Cl
noncomputable section
noncomputable def c43 : Code := Try.f43.code
def F43l0 (p0 : (List (Int × Int))) (v5 : Int) : Option (Unit ⊕ Unit) :=
 if decide (v5 < (p0.length : Int)) then
  F39 p0 v5 >>= fun r12 =>
  if decide ((w64 (r12.1.1 + r12.1.2)) ≥ (w64 (r12.2.1 + r12.2.2))) then
   some (.inl ())
  else
   F43l0 p0 (w64 (v5 + 1))
 else
  some (.inr ())
 partial_fixpoint
def F43 (p0 : (List (Int × Int))) : Option Bool :=
 F43l0 p0 0 >>= fun r15 =>
 match r15 with
 | .inl o17 =>
  some false
 | .inr o18 =>
  some true
def V43 (b : Nat) (r : Bool) : Value := .bool r
def N43 (b : Nat) (r : Bool) : List Blk := []
def P43l0 (p0 : (List (Int × Int))) (r : (Unit ⊕ Unit)) : Post := fun e a h => (match r with | .inl q0 => e = .ret ∧ Wk Try.prog 1 1 a h (st 29 [(2, .bool false)]) [ab 55 e55 p0] | .inr q0 => e = .exit 0 ∧ Wk Try.prog 1 1 a h (st 29 []) [ab 55 e55 p0])
theorem L43l0 (p0 : (List (Int × Int))) (v5 : Int) (r : (Unit ⊕ Unit)) (hF : F43l0 p0 v5 = some r) : TL Try.prog 1 1 c43.s2.s1.s2.bd.bd (st 29 [(0, sv 0 p0.length ANY), (7, iv (p0.length : Int)), (8, iv v5)]) [ab 55 e55 p0] (P43l0 p0 r) := by
 refine F43l0.partial_correctness p0 (motive := fun v5 r => TL Try.prog 1 1 c43.s2.s1.s2.bd.bd (st 29 [(0, sv 0 p0.length ANY), (7, iv (p0.length : Int)), (8, iv v5)]) [ab 55 e55 p0] (P43l0 p0 r)) ?_ v5 r hF
 clear hF r v5
 intro again ih v5 r hF
 refine TL.round (TS.sq (TS.rg (TI.ra 1 [0, 7, 8, 9] (st 29 [(0, sv 0 p0.length ANY), (7, iv (p0.length : Int)), (8, iv v5), (9, .bool (decide (v5 < (p0.length : Int))))]) (TI.dn (NX.sq (TS.sq ?_))))))
 refine TS.cd (.tmp 9) (decide (v5 < (p0.length : Int))) (fun hc11 => ?_) (fun hc11 => ?_)
 · replace hF := of_pos hF hc11
   refine TS.sk (NX.sq (TS.sq (TS.bk 1 (TS.sq (TS.rg (TI.ra 2 [0, 3, 7, 8] (st 29 [(0, sv 0 p0.length ANY), (3, iv v5), (7, iv (p0.length : Int)), (8, iv v5)]) (TI.dn (NX.sq ?_))))))))
   refine TS.sq ?_
   have hX := of_do hF
   clear hF
   obtain ⟨r12, h13, hF⟩ := hX
   refine TS.rg (TI.ra 2 [0, 7, 8, 12, 13] (st 29 [(0, sv 0 p0.length ANY), (7, iv (p0.length : Int)), (8, iv v5), (12, sv 0 p0.length ANY), (13, iv v5)]) (TI.cp 39 [sv 0 p0.length ANY, iv v5] (.tuple ⟨[ag [iv r12.1.1, iv r12.1.2], ag [iv r12.2.1, iv r12.2.2]]⟩) [] (PureSim.ren (hc := [ab 55 e55 p0]) (fun i => List.getD [(0, 0)] i (0, 0)) (C39 _ _ _ h13) (.ac (.nil _)) (.cons (Rn.any _ _ _ _ _ _ (Nat.le_of_ble_eq_true rfl) rfl rfl (by decide)) (.fl .nil)) (.flat (by kernel_rfl)) newflat_nil) (TI.rn 7 [0, 4, 5, 7, 8] [0, 1, 2] (st 29 [(0, sv 0 p0.length ANY), (4, pt 1 0), (5, pt 2 0), (7, iv (p0.length : Int)), (8, iv v5)]) [ab 55 e55 p0, cl 55 [iv r12.1.1, iv r12.1.2], cl 55 [iv r12.2.1, iv r12.2.2]] (TI.dn (NX.sq (TS.sq (TS.rg (TI.rn 11 [0, 7, 8, 27] [0] (st 29 [(0, sv 0 p0.length ANY), (7, iv (p0.length : Int)), (8, iv v5), (27, .bool (decide ((w64 (r12.1.1 + r12.1.2)) ≥ (w64 (r12.2.1 + r12.2.2)))))]) [ab 55 e55 p0, .dead, .dead] ?_))))))))
   refine TI.dn (NX.sq ?_)
   refine TS.cd (.tmp 27) (decide ((w64 (r12.1.1 + r12.1.2)) ≥ (w64 (r12.2.1 + r12.2.2)))) (fun hc14 => ?_) (fun hc14 => ?_)
   · replace hF := of_pos hF hc14
     refine TS.sq (TS.rg (TI.ra 1 [2] (st 29 [(2, .bool false)]) (TI.dn (NX.sq (TS.rt (NX.bkR (NX.sqR ?_)))))))
     have hF := Option.some.inj hF
     subst hF
     exact Rd.out (e := .ret) (by intro h; cases h) (And.intro rfl (Wk.an [] (.ac (.nil _)) [.bool false] (.fl .nil)))
   replace hF := of_neg hF hc14
   refine TS.sk (NX.bk (NX.sq (TS.rg (TI.ra 2 [0, 7, 8] (st 29 [(0, sv 0 p0.length ANY), (7, iv (p0.length : Int)), (8, iv (w64 (v5 + 1)))]) (TI.dn ?_)))))
   exact Rd.again (a2 := (st 29 [(0, sv 0 p0.length ANY), (7, iv (p0.length : Int)), (8, iv (w64 (v5 + 1)))])) (h2 := [ab 55 e55 p0]) (Wk.an [] (.ac (.nil _)) [sv 0 p0.length ANY, iv (p0.length : Int), iv (w64 (v5 + 1))] (.sl (.fl (.fl .nil)))) (ih (w64 (v5 + 1)) _ hF)
 replace hF := of_neg hF hc11
 refine TS.ex 0 (NX.sqX ?_)
 have hF := Option.some.inj hF
 subst hF
 exact Rd.out (e := .exit 0) (by intro h; cases h) (And.intro rfl (Wk.an [] (.ac (.nil _)) [] .nil))
theorem B43 (p0 : (List (Int × Int))) (r : Bool) (hF : F43 p0 = some r) : TS Try.prog 1 1 c43 (st 29 [(0, sv 0 p0.length ANY)]) [ab 55 e55 p0] (NX Try.prog 1 1 [] (FinP Try.prog Try.f43 1 (V43 1 r) (N43 1 r))) := by
 unfold F43 at hF
 refine TS.sq (TS.rg (TI.ra 1 [0] (st 29 [(0, sv 0 p0.length ANY)]) (TI.dn (NX.sq (TS.sq (TS.sq (TS.rg (TI.ra 3 [0, 7, 8] (st 29 [(0, sv 0 p0.length ANY), (7, iv (p0.length : Int)), (8, iv 0)]) ?_))))))))
 refine TI.dn (NX.sq (TS.bk 0 ?_))
 have hX := of_do hF
 clear hF
 obtain ⟨r15, h16, hF⟩ := hX
 refine TS.lp (TL.weak (a2 := (st 29 [(0, sv 0 p0.length ANY), (7, iv (p0.length : Int)), (8, iv 0)])) (h2 := [ab 55 e55 p0]) (Wk.an [] (.ac (.nil _)) [sv 0 p0.length ANY, iv (p0.length : Int), iv 0] (.sl (.fl (.fl .nil)))) (TL.post (L43l0 p0 0 r15 h16) ?_))
 rintro e a1 h1 hp
 rcases r15 with o17 | o18
 · skip
   obtain ⟨rfl, hw⟩ := hp
   refine ⟨(st 29 [(2, .bool false)]), [ab 55 e55 p0], (NX.bkR (NX.sqR ?_)), hw⟩
   have hF := Option.some.inj hF
   subst hF
   exact ⟨.inr rfl, rfl, .bool false, by kernel_rfl, WkV.flat0 (by kernel_rfl) (Nat.le_of_ble_eq_true rfl)⟩
 skip
 obtain ⟨rfl, hw⟩ := hp
 refine ⟨(st 29 []), [ab 55 e55 p0], (NX.bkX (NX.sq (TS.sq (TS.rg (TI.ra 1 [2] (st 29 [(2, .bool true)]) (TI.dn (NX.sq (TS.rt ?_)))))))), hw⟩
 have hF := Option.some.inj hF
 subst hF
 exact ⟨.inr rfl, rfl, .bool true, by kernel_rfl, WkV.flat0 (by kernel_rfl) (Nat.le_of_ble_eq_true rfl)⟩
theorem C43 (p0 : (List (Int × Int))) (r : Bool) (hF : F43 p0 = some r) : PureSim Try.prog 43 [sv 0 p0.length ANY] [ab 55 e55 p0] (V43 1 r) (N43 1 r) :=
 PureSim.of_Fin Try.func43 (c := c43) (by kernel_rfl) (by kernel_rfl) 1 rfl [0] [0] (by kernel_rfl) (B43 p0 r hF)
noncomputable def c46 : Code := Try.f46.code
def F46 (p0 : Int) (p1 : Int) : Option Bool :=
 (
  if decide (p1 ≥ 1) then
   if decide (p1 ≤ 6000) then
    if decide (p0 < (w64 (10000 * p1))) then
     some (decide (p0 > (w64 ((-10000) * p1))))
    else
     some (false)
   else
    some (false)
  else
   some (false)
 : Option Bool) >>= fun m4 =>
 some m4
def V46 (b : Nat) (r : Bool) : Value := .bool r
def N46 (b : Nat) (r : Bool) : List Blk := []
theorem B46 (p0 : Int) (p1 : Int) (r : Bool) (hF : F46 p0 p1 = some r) : TS Try.prog 0 0 c46 (st 27 [(0, ag [iv p0, iv p1])]) [] (NX Try.prog 0 0 [] (FinP Try.prog Try.f46 0 (V46 0 r) (N46 0 r))) := by
 unfold F46 at hF
 refine TS.sq (TS.rg (TI.rn 2 [1] [0] (st 27 [(1, pt 0 0)]) [cl 29 [iv p0, iv p1]] (TI.dn (NX.sq (TS.sq ?_)))))
 have hX := of_do hF
 clear hF
 obtain ⟨m4, hm5, hF⟩ := hX
 have hK : NX Try.prog 0 0 [.sq c46.s2.s2] (FinP Try.prog Try.f46 0 (V46 0 r) (N46 0 r)) .normal (st 27 [(2, .bool m4)]) [.dead] := by
  refine NX.sq (TS.rt ?_)
  have hF := Option.some.inj hF
  subst hF
  exact ⟨.inr rfl, rfl, .bool m4, by kernel_rfl, WkV.flat0 (by kernel_rfl) (Nat.le_of_ble_eq_true rfl)⟩
 rcases Bool.eq_false_or_eq_true (decide (p1 ≥ 1)) with hc1 | hc1
 · replace hm5 := of_pos hm5 hc1
   rcases Bool.eq_false_or_eq_true (decide (p1 ≤ 6000)) with hc2 | hc2
   · replace hm5 := of_pos hm5 hc2
     rcases Bool.eq_false_or_eq_true (decide (p0 < (w64 (10000 * p1)))) with hc3 | hc3
     · replace hm5 := of_pos hm5 hc3
       have hm5 := Option.some.inj hm5
       subst hm5
       refine TS.rg (TI.ra 2 [1, 4] (st 27 [(1, pt 0 0), (4, iv p1)]) (TI.o { val := .bool true } (q_conv (e := decide (p1 ≥ 1)) (b := true) (by kernel_rfl) hc1) [1, 5] [0] (st 27 [(1, pt 0 0), (5, .bool true)]) [cl 29 [iv p0, iv p1]] (TI.ra 3 [1, 6, 8] (st 27 [(1, pt 0 0), (6, .bool true), (8, iv p1)]) (TI.o { val := .bool true } (q_conv (e := decide (p1 ≤ 6000)) (b := true) (by kernel_rfl) hc2) [1, 6, 9] [0] (st 27 [(1, pt 0 0), (6, .bool true), (9, .bool true)]) [cl 29 [iv p0, iv p1]] (TI.ra 7 [1, 11, 13, 16] (st 27 [(1, pt 0 0), (11, .bool true), (13, iv p0), (16, iv (w64 (10000 * p1)))]) (TI.o { val := .bool true } (q_conv (e := decide (p0 < (w64 (10000 * p1)))) (b := true) (by kernel_rfl) hc3) [1, 11, 17] [0] (st 27 [(1, pt 0 0), (11, .bool true), (17, .bool true)]) [cl 29 [iv p0, iv p1]] (TI.rn 10 [2] [] (st 27 [(2, .bool (decide (p0 > (w64 ((-10000) * p1)))))]) [.dead] (TI.dn ?_))))))))
       exact hK
     replace hm5 := of_neg hm5 hc3
     have hm5 := Option.some.inj hm5
     subst hm5
     refine TS.rg (TI.ra 2 [1, 4] (st 27 [(1, pt 0 0), (4, iv p1)]) (TI.o { val := .bool true } (q_conv (e := decide (p1 ≥ 1)) (b := true) (by kernel_rfl) hc1) [1, 5] [0] (st 27 [(1, pt 0 0), (5, .bool true)]) [cl 29 [iv p0, iv p1]] (TI.ra 3 [1, 6, 8] (st 27 [(1, pt 0 0), (6, .bool true), (8, iv p1)]) (TI.o { val := .bool true } (q_conv (e := decide (p1 ≤ 6000)) (b := true) (by kernel_rfl) hc2) [1, 6, 9] [0] (st 27 [(1, pt 0 0), (6, .bool true), (9, .bool true)]) [cl 29 [iv p0, iv p1]] (TI.ra 7 [1, 11, 13, 16] (st 27 [(1, pt 0 0), (11, .bool true), (13, iv p0), (16, iv (w64 (10000 * p1)))]) (TI.o { val := .bool false } (q_conv (e := decide (p0 < (w64 (10000 * p1)))) (b := false) (by kernel_rfl) hc3) [1, 11, 17] [0] (st 27 [(1, pt 0 0), (11, .bool true), (17, .bool false)]) [cl 29 [iv p0, iv p1]] (TI.rn 10 [2] [] (st 27 [(2, .bool false)]) [.dead] (TI.dn ?_))))))))
     exact hK
   replace hm5 := of_neg hm5 hc2
   have hm5 := Option.some.inj hm5
   subst hm5
   exact TS.rg (TI.ra 2 [1, 4] (st 27 [(1, pt 0 0), (4, iv p1)]) (TI.o { val := .bool true } (q_conv (e := decide (p1 ≥ 1)) (b := true) (by kernel_rfl) hc1) [1, 5] [0] (st 27 [(1, pt 0 0), (5, .bool true)]) [cl 29 [iv p0, iv p1]] (TI.ra 3 [1, 6, 8] (st 27 [(1, pt 0 0), (6, .bool true), (8, iv p1)]) (TI.o { val := .bool false } (q_conv (e := decide (p1 ≤ 6000)) (b := false) (by kernel_rfl) hc2) [1, 6, 9] [0] (st 27 [(1, pt 0 0), (6, .bool true), (9, .bool false)]) [cl 29 [iv p0, iv p1]] (TI.rn 18 [2] [] (st 27 [(2, .bool false)]) [.dead] (TI.dn hK))))))
 replace hm5 := of_neg hm5 hc1
 have hm5 := Option.some.inj hm5
 subst hm5
 exact TS.rg (TI.ra 2 [1, 4] (st 27 [(1, pt 0 0), (4, iv p1)]) (TI.o { val := .bool false } (q_conv (e := decide (p1 ≥ 1)) (b := false) (by kernel_rfl) hc1) [1, 5] [0] (st 27 [(1, pt 0 0), (5, .bool false)]) [cl 29 [iv p0, iv p1]] (TI.rn 22 [2] [] (st 27 [(2, .bool false)]) [.dead] (TI.dn hK))))
theorem C46 (p0 : Int) (p1 : Int) (r : Bool) (hF : F46 p0 p1 = some r) : PureSim Try.prog 46 [ag [iv p0, iv p1]] [] (V46 0 r) (N46 0 r) :=
 PureSim.of_Fin Try.func46 (c := c46) (by kernel_rfl) (by kernel_rfl) 0 rfl [0] [] (by kernel_rfl) (B46 p0 p1 r hF)
end
end Go.Proofs.Ythpfffijnkmdgaa
