/- What functions of the program compute, and that they do. -/
import Derived.Test.YtdekbjfjbbdjgaaGW
set_option linter.unusedVariables false
set_option linter.unusedSimpArgs false
set_option maxRecDepth 100000
set_option maxHeartbeats 4000000
namespace Go.Proofs.Ytdekbjfjbbdjgaa
open Go Go.Cl
noncomputable section
noncomputable def c20 : Code := Try.f20.code
def S20_0 (p0 p1 : List Int) : CAct := (st 26 [(0, sv 0 p0.length ANY), (1, sv 1 p1.length ANY), (5, iv 0)])
def H20_1 (p0 p1 : List Int) : List Blk := [ab 3 e3 p0, ab 3 e3 p1]
def F20l0 (p0 p1 : List Int) (v10 : Int) : Option (Unit ⊕ Unit) :=
 if decide (v10 < (p0.length : Int)) then
  if (0 : Int) ≤ v10 ∧ v10 < (p0.length : Int) then
   some (List.getD p0 (Int.toNat v10) 0) >>= fun o21 =>
   if (0 : Int) ≤ v10 ∧ v10 < (p1.length : Int) then
    some (List.getD p1 (Int.toNat v10) 0) >>= fun o24 =>
    if o21 != o24 then
     some (.inl ())
    else
     F20l0 p0 p1 (w64 (v10 + 1))
   else none
  else none
 else
  some (.inr ())
 partial_fixpoint
def F20 (p0 p1 : List Int) : Option Bool :=
 if (p0.length : Int) != (p1.length : Int) then
  some false
 else
  F20l0 p0 p1 0 >>= fun r27 =>
  match r27 with
  | .inl o29 =>
   some false
  | .inr o30 =>
   some true
def V20 (b : Nat) (r : Bool) : Value := .bool r
def N20 (b : Nat) (r : Bool) : List Blk := []
def P20l0 (p0 p1 : List Int) (r : Unit ⊕ Unit) : Post := fun e a h => (match r with | .inl q0 => e = .ret ∧ Wk Try.prog 2 2 a h (st 26 [(4, .bool false)]) (H20_1 p0 p1) | .inr q0 => e = .exit 0 ∧ Wk Try.prog 2 2 a h (st 26 []) (H20_1 p0 p1))
theorem L20l0 (p0 p1 : List Int) (v10 : Int) (r : Unit ⊕ Unit) (hF : F20l0 p0 p1 v10 = some r) : TL Try.prog 2 2 c20.s2.s2.s1.s2.bd.bd (st 26 [(0, sv 0 p0.length ANY), (1, sv 1 p1.length ANY), (5, iv v10)]) (H20_1 p0 p1) (P20l0 p0 p1 r) := by
 refine F20l0.partial_correctness p0 p1 (motive := fun v10 r => TL Try.prog 2 2 c20.s2.s2.s1.s2.bd.bd (st 26 [(0, sv 0 p0.length ANY), (1, sv 1 p1.length ANY), (5, iv v10)]) (H20_1 p0 p1) (P20l0 p0 p1 r)) ?_ v10 r hF
 clear hF r v10
 intro again ih v10 r hF
 refine TL.round (TS.sq (TS.sq (TS.rg (TI.ra 4 [0, 1, 5, 14] (st 26 [(0, sv 0 p0.length ANY), (1, sv 1 p1.length ANY), (5, iv v10), (14, .bool (decide (v10 < (p0.length : Int))))]) (TI.dn (NX.sq ?_))))))
 refine TS.cd (.tmp 14) (decide (v10 < (p0.length : Int))) (fun hc19 => ?_) (fun hc19 => ?_)
 · replace hF := of_pos hF hc19
   refine TS.sk (NX.sq (TS.sq (TS.bk 1 (TS.sq ?_))))
   obtain ⟨hg20, hF⟩ := of_guard hF
   obtain ⟨o21, h22, hF⟩ := of_do hF
   replace h22 := sj h22
   obtain ⟨hg23, hF⟩ := of_guard hF
   obtain ⟨o24, h25, hF⟩ := of_do hF
   replace h25 := sj h25
   refine TS.dp [] (fun e he => by cases he) mixed 8 [0, 1, 5, 25] [0, 1] (st 26 [(0, sv 0 p0.length ANY), (1, sv 1 p1.length ANY), (5, iv v10), (25, .bool (o21 != o24))]) (H20_1 p0 p1) ?_ ?_
   · exact QJ.rn (qs (st 26 [(0, sv 0 p0.length ANY), (1, sv 1 p1.length ANY), (5, iv v10), (14, .bool (decide (v10 < (p0.length : Int)))), (17, sv 0 p0.length ANY), (18, iv v10)]) (H20_1 p0 p1) [] []) 2 (QJ.o { val := .pointer (some ⟨0, 0 + (Int.toNat v10) * 1, none⟩) } (q_ixS 0 0 ((Int.toNat v10) * 1) (by kernel_rfl) hg20) (QJ.o { val := iv o21 } (q_n1a Try.prog (H20_1 p0 p1) 3 0 (0 + (Int.toNat v10) * 1) p0 e3 1 3 (Int.toNat v10) 0 0 h22) (QJ.rn (qs (st 26 [(0, sv 0 p0.length ANY), (1, sv 1 p1.length ANY), (5, iv v10), (14, .bool (decide (v10 < (p0.length : Int)))), (17, sv 0 p0.length ANY), (18, iv v10), (19, .pointer (some ⟨0, 0 + (Int.toNat v10) * 1, none⟩)), (20, iv o21), (21, sv 1 p1.length ANY), (22, iv v10)]) (H20_1 p0 p1) [] []) 2 (QJ.o { val := .pointer (some ⟨1, 0 + (Int.toNat v10) * 1, none⟩) } (q_ixS 1 0 ((Int.toNat v10) * 1) (by kernel_rfl) hg23) (QJ.o { val := iv o24 } (q_n1a Try.prog (H20_1 p0 p1) 3 1 (0 + (Int.toNat v10) * 1) p1 e3 1 3 (Int.toNat v10) 0 0 h25) (QJ.dn ⟨rfl, SJ.la⟩))))))
   refine TS.cd (.tmp 25) (o21 != o24) (fun hc26 => ?_) (fun hc26 => ?_)
   · replace hF := of_pos hF hc26
     refine TS.sq (TS.rg (TI.ra 1 [4] (st 26 [(4, .bool false)]) (TI.dn (NX.sq (TS.rt (NX.bkR (NX.sqR ?_)))))))
     have hF := sj hF
     subst hF
     exact Rd.out (e := .ret) (by intro h; cases h) (And.intro rfl (Wk.an [] (.ac (.ac (.nil _))) [.bool false] (.fl .nil)))
   replace hF := of_neg hF hc26
   refine TS.sk (NX.bk (NX.sq (TS.rg (TI.ra 3 [0, 1, 5] (st 26 [(0, sv 0 p0.length ANY), (1, sv 1 p1.length ANY), (5, iv (w64 (v10 + 1)))]) (TI.dn ?_)))))
   exact Rd.again (a2 := (st 26 [(0, sv 0 p0.length ANY), (1, sv 1 p1.length ANY), (5, iv (w64 (v10 + 1)))])) (h2 := (H20_1 p0 p1)) (Wk.an [] (.ac (.ac (.nil _))) [sv 0 p0.length ANY, sv 1 p1.length ANY, iv (w64 (v10 + 1))] (.sl (.sl (.fl .nil)))) (ih (w64 (v10 + 1)) _ hF)
 replace hF := of_neg hF hc19
 refine TS.ex 0 (NX.sqX ?_)
 have hF := sj hF
 subst hF
 exact Rd.out (e := .exit 0) (by intro h; cases h) (And.intro rfl (Wk.an [] (.ac (.ac (.nil _))) [] .nil))
theorem B20 (p0 p1 : List Int) (r : Bool) (hF : F20 p0 p1 = some r) : TS Try.prog 2 2 c20 (st 26 [(0, sv 0 p0.length ANY), (1, sv 1 p1.length ANY)]) (H20_1 p0 p1) (NX Try.prog 2 2 [] (FinP Try.prog Try.f20 2 (V20 2 r) (N20 2 r))) := by
 unfold F20 at hF
 refine TS.sq (TS.rg (TI.ra 1 [0, 1] (st 26 [(0, sv 0 p0.length ANY), (1, sv 1 p1.length ANY)]) (TI.dn (NX.sq (TS.sq (TS.sq (TS.rg (TI.ra 5 [0, 1, 10] (st 26 [(0, sv 0 p0.length ANY), (1, sv 1 p1.length ANY), (10, .bool ((p0.length : Int) != (p1.length : Int)))]) ?_))))))))
 refine TI.dn (NX.sq ?_)
 refine TS.cd (.tmp 10) ((p0.length : Int) != (p1.length : Int)) (fun hc1 => ?_) (fun hc1 => ?_)
 · replace hF := of_pos hF hc1
   refine TS.sq (TS.rg (TI.ra 1 [4] (st 26 [(4, .bool false)]) (TI.dn (NX.sq (TS.rt (NX.sqR ?_))))))
   have hF := sj hF
   subst hF
   exact ⟨.inr rfl, rfl, .bool false, by kernel_rfl, WkV.flat0 (by kernel_rfl) (nl rfl)⟩
 replace hF := of_neg hF hc1
 refine TS.sk (NX.sq (TS.sq (TS.sq (TS.rg (TI.ra 1 [0, 1, 5] (S20_0 p0 p1) (TI.dn (NX.sq (TS.bk 0 ?_))))))))
 obtain ⟨r27, h28, hF⟩ := of_do hF
 refine TS.lp (TL.weak (a2 := (S20_0 p0 p1)) (h2 := (H20_1 p0 p1)) (Wk.an [] (.ac (.ac (.nil _))) [sv 0 p0.length ANY, sv 1 p1.length ANY, iv 0] (.sl (.sl (.fl .nil)))) (TL.post (L20l0 p0 p1 0 r27 h28) ?_))
 rintro e a1 h1 hp
 rcases r27 with o29 | o30
 · skip
   obtain ⟨rfl, hw⟩ := hp
   refine ⟨(st 26 [(4, .bool false)]), (H20_1 p0 p1), (NX.bkR (NX.sqR ?_)), hw⟩
   have hF := sj hF
   subst hF
   exact ⟨.inr rfl, rfl, .bool false, by kernel_rfl, WkV.flat0 (by kernel_rfl) (nl rfl)⟩
 skip
 obtain ⟨rfl, hw⟩ := hp
 refine ⟨(st 26 []), (H20_1 p0 p1), (NX.bkX (NX.sq (TS.sq (TS.rg (TI.ra 1 [4] (st 26 [(4, .bool true)]) (TI.dn (NX.sq (TS.rt ?_)))))))), hw⟩
 have hF := sj hF
 subst hF
 exact ⟨.inr rfl, rfl, .bool true, by kernel_rfl, WkV.flat0 (by kernel_rfl) (nl rfl)⟩
theorem C20 (p0 p1 : List Int) (r : Bool) (hF : F20 p0 p1 = some r) : PureSim Try.prog 20 [sv 0 p0.length ANY, sv 1 p1.length ANY] (H20_1 p0 p1) (V20 2 r) (N20 2 r) :=
 PureSim.of_Fin Try.func20 (c := c20) (by kernel_rfl) (by kernel_rfl) 2 rfl [0, 1] [0, 1] (by kernel_rfl) (B20 p0 p1 r hF)
end
end Go.Proofs.Ytdekbjfjbbdjgaa
