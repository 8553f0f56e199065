/- What functions of the program compute, and that they do. -/
import Derived.Test.YthpfffijnkmdgaaCR
set_option linter.unusedVariables false
set_option linter.unusedSimpArgs false
set_option maxRecDepth 100000
set_option maxHeartbeats 4000000
namespace Go.Proofs.Ythpfffijnkmdgaa
open Go Go.Cl
noncomputable section
noncomputable def c43 : Code := Try.f43.code
def F43l0 (p0 : (List (Int × Int))) (v5 : Int) : Option (Unit ⊕ Unit) :=
 if decide (v5 < (p0.length : Int)) then
  F39 p0 v5 >>= fun r12 =>
  if decide ((w64 (r12.1.1 + r12.1.2)) ≥ (w64 (r12.2.1 + r12.2.2))) then
   some (.inl ())
  else
   F43l0 p0 (w64 (v5 + 1))
 else
  some (.inr ())
 partial_fixpoint
def F43 (p0 : (List (Int × Int))) : Option Bool :=
 F43l0 p0 0 >>= fun r15 =>
 match r15 with
 | .inl o17 =>
  some false
 | .inr o18 =>
  some true
def V43 (b : Nat) (r : Bool) : Value := .bool r
def N43 (b : Nat) (r : Bool) : List Blk := []
def P43l0 (p0 : (List (Int × Int))) (r : (Unit ⊕ Unit)) : Post := fun e a h => (match r with | .inl q0 => e = .ret ∧ Wk Try.prog 1 1 a h (st 29 [(2, .bool false)]) [ab 55 e55 p0] | .inr q0 => e = .exit 0 ∧ Wk Try.prog 1 1 a h (st 29 []) [ab 55 e55 p0])
theorem L43l0 (p0 : (List (Int × Int))) (v5 : Int) (r : (Unit ⊕ Unit)) (hF : F43l0 p0 v5 = some r) : TL Try.prog 1 1 c43.s2.s1.s2.bd.bd (st 29 [(0, sv 0 p0.length ANY), (7, iv (p0.length : Int)), (8, iv v5)]) [ab 55 e55 p0] (P43l0 p0 r) := by
 refine F43l0.partial_correctness p0 (motive := fun v5 r => TL Try.prog 1 1 c43.s2.s1.s2.bd.bd (st 29 [(0, sv 0 p0.length ANY), (7, iv (p0.length : Int)), (8, iv v5)]) [ab 55 e55 p0] (P43l0 p0 r)) ?_ v5 r hF
 clear hF r v5
 intro again ih v5 r hF
 refine TL.round (TS.sq (TS.rg (TI.ra 1 [0, 7, 8, 9] (st 29 [(0, sv 0 p0.length ANY), (7, iv (p0.length : Int)), (8, iv v5), (9, .bool (decide (v5 < (p0.length : Int))))]) (TI.dn (NX.sq (TS.sq ?_))))))
 refine TS.cd (.tmp 9) (decide (v5 < (p0.length : Int))) (fun hc11 => ?_) (fun hc11 => ?_)
 · replace hF := of_pos hF hc11
   refine TS.sk (NX.sq (TS.sq (TS.bk 1 (TS.sq (TS.rg (TI.ra 2 [0, 3, 7, 8] (st 29 [(0, sv 0 p0.length ANY), (3, iv v5), (7, iv (p0.length : Int)), (8, iv v5)]) (TI.dn (NX.sq ?_))))))))
   refine TS.sq ?_
   have hX := of_do hF
   clear hF
   obtain ⟨r12, h13, hF⟩ := hX
   refine TS.rg (TI.ra 2 [0, 7, 8, 12, 13] (st 29 [(0, sv 0 p0.length ANY), (7, iv (p0.length : Int)), (8, iv v5), (12, sv 0 p0.length ANY), (13, iv v5)]) (TI.cp 39 [sv 0 p0.length ANY, iv v5] (.tuple ⟨[ag [iv r12.1.1, iv r12.1.2], ag [iv r12.2.1, iv r12.2.2]]⟩) [] (PureSim.ren (hc := [ab 55 e55 p0]) (fun i => List.getD [(0, 0)] i (0, 0)) (C39 _ _ _ h13) (.ac (.nil _)) (.cons (Rn.any _ _ _ _ _ _ (Nat.le_of_ble_eq_true rfl) rfl rfl (by decide)) (.fl .nil)) (.flat (by kernel_rfl)) newflat_nil) (TI.rn 7 [0, 4, 5, 7, 8] [0, 1, 2] (st 29 [(0, sv 0 p0.length ANY), (4, pt 1 0), (5, pt 2 0), (7, iv (p0.length : Int)), (8, iv v5)]) [ab 55 e55 p0, cl 55 [iv r12.1.1, iv r12.1.2], cl 55 [iv r12.2.1, iv r12.2.2]] (TI.dn (NX.sq (TS.sq (TS.rg (TI.rn 11 [0, 7, 8, 27] [0] (st 29 [(0, sv 0 p0.length ANY), (7, iv (p0.length : Int)), (8, iv v5), (27, .bool (decide ((w64 (r12.1.1 + r12.1.2)) ≥ (w64 (r12.2.1 + r12.2.2)))))]) [ab 55 e55 p0, .dead, .dead] ?_))))))))
   refine TI.dn (NX.sq ?_)
   refine TS.cd (.tmp 27) (decide ((w64 (r12.1.1 + r12.1.2)) ≥ (w64 (r12.2.1 + r12.2.2)))) (fun hc14 => ?_) (fun hc14 => ?_)
   · replace hF := of_pos hF hc14
     refine TS.sq (TS.rg (TI.ra 1 [2] (st 29 [(2, .bool false)]) (TI.dn (NX.sq (TS.rt (NX.bkR (NX.sqR ?_)))))))
     have hF := Option.some.inj hF
     subst hF
     exact Rd.out (e := .ret) (by intro h; cases h) (And.intro rfl (Wk.an [] (.ac (.nil _)) [.bool false] (.fl .nil)))
   replace hF := of_neg hF hc14
   refine TS.sk (NX.bk (NX.sq (TS.rg (TI.ra 2 [0, 7, 8] (st 29 [(0, sv 0 p0.length ANY), (7, iv (p0.length : Int)), (8, iv (w64 (v5 + 1)))]) (TI.dn ?_)))))
   exact Rd.again (a2 := (st 29 [(0, sv 0 p0.length ANY), (7, iv (p0.length : Int)), (8, iv (w64 (v5 + 1)))])) (h2 := [ab 55 e55 p0]) (Wk.an [] (.ac (.nil _)) [sv 0 p0.length ANY, iv (p0.length : Int), iv (w64 (v5 + 1))] (.sl (.fl (.fl .nil)))) (ih (w64 (v5 + 1)) _ hF)
 replace hF := of_neg hF hc11
 refine TS.ex 0 (NX.sqX ?_)
 have hF := Option.some.inj hF
 subst hF
 exact Rd.out (e := .exit 0) (by intro h; cases h) (And.intro rfl (Wk.an [] (.ac (.nil _)) [] .nil))
theorem B43 (p0 : (List (Int × Int))) (r : Bool) (hF : F43 p0 = some r) : TS Try.prog 1 1 c43 (st 29 [(0, sv 0 p0.length ANY)]) [ab 55 e55 p0] (NX Try.prog 1 1 [] (FinP Try.prog Try.f43 1 (V43 1 r) (N43 1 r))) := by
 unfold F43 at hF
 refine TS.sq (TS.rg (TI.ra 1 [0] (st 29 [(0, sv 0 p0.length ANY)]) (TI.dn (NX.sq (TS.sq (TS.sq (TS.rg (TI.ra 3 [0, 7, 8] (st 29 [(0, sv 0 p0.length ANY), (7, iv (p0.length : Int)), (8, iv 0)]) ?_))))))))
 refine TI.dn (NX.sq (TS.bk 0 ?_))
 have hX := of_do hF
 clear hF
 obtain ⟨r15, h16, hF⟩ := hX
 refine TS.lp (TL.weak (a2 := (st 29 [(0, sv 0 p0.length ANY), (7, iv (p0.length : Int)), (8, iv 0)])) (h2 := [ab 55 e55 p0]) (Wk.an [] (.ac (.nil _)) [sv 0 p0.length ANY, iv (p0.length : Int), iv 0] (.sl (.fl (.fl .nil)))) (TL.post (L43l0 p0 0 r15 h16) ?_))
 rintro e a1 h1 hp
 rcases r15 with o17 | o18
 · skip
   obtain ⟨rfl, hw⟩ := hp
   refine ⟨(st 29 [(2, .bool false)]), [ab 55 e55 p0], (NX.bkR (NX.sqR ?_)), hw⟩
   have hF := Option.some.inj hF
   subst hF
   exact ⟨.inr rfl, rfl, .bool false, by kernel_rfl, WkV.flat0 (by kernel_rfl) (Nat.le_of_ble_eq_true rfl)⟩
 skip
 obtain ⟨rfl, hw⟩ := hp
 refine ⟨(st 29 []), [ab 55 e55 p0], (NX.bkX (NX.sq (TS.sq (TS.rg (TI.ra 1 [2] (st 29 [(2, .bool true)]) (TI.dn (NX.sq (TS.rt ?_)))))))), hw⟩
 have hF := Option.some.inj hF
 subst hF
 exact ⟨.inr rfl, rfl, .bool true, by kernel_rfl, WkV.flat0 (by kernel_rfl) (Nat.le_of_ble_eq_true rfl)⟩
theorem C43 (p0 : (List (Int × Int))) (r : Bool) (hF : F43 p0 = some r) : PureSim Try.prog 43 [sv 0 p0.length ANY] [ab 55 e55 p0] (V43 1 r) (N43 1 r) :=
 PureSim.of_Fin Try.func43 (c := c43) (by kernel_rfl) (by kernel_rfl) 1 rfl [0] [0] (by kernel_rfl) (B43 p0 r hF)
end
end Go.Proofs.Ythpfffijnkmdgaa
