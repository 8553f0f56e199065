/- What functions of the program compute, and that they do. -/
import Derived.Test.YthpfffijnkmdgaaTsZ
import Derived.Test.YthpfffijnkmdgaaProg
import Derived.KernelRfl
set_option linter.unusedVariables false
set_option linter.unusedSimpArgs false
set_option maxRecDepth 100000
set_option maxHeartbeats 4000000
namespace Go.Proofs.Ythpfffijnkmdgaa
open Go Go.Cl
noncomputable abbrev Pg : Program := Try.prog
noncomputable section
theorem mixed : Pg.follows .mixedOrders = true := by kernel_rfl
noncomputable def c96 : Code := Try.f96.code
def F96 (p0 : Int) : Option Bool :=
 some (p0 != p0)
def V96 (b : Nat) (r : Bool) : Value := .bool r
def N96 (b : Nat) (r : Bool) : List Blk := []
theorem B96 (p0 : Int) (r : Bool) (hF : F96 p0 = some r) : TS Pg 0 0 c96 (st 6 [(0, iv p0)]) [] (NX Pg 0 0 [] (FinP Pg Try.f96 0 (V96 0 r) (N96 0 r))) := by
 unfold F96 at hF
 refine TS.sq (TS.rg (TI.ra 1 [0] (st 6 [(0, iv p0)]) (TI.dq (TS.sq (TS.rg (TI.ra 4 [2] (st 6 [(2, .bool (p0 != p0))]) (TI.dn ?_)))))))
 refine NX.sq (TS.rt ?_)
 have hF := sj hF
 subst hF
 exact ⟨.inr rfl, rfl, .bool (p0 != p0), by kernel_rfl, WkV.flat0 (by kernel_rfl) (nl rfl)⟩
theorem C96 (p0 : Int) (r : Bool) (hF : F96 p0 = some r) : PureSim Pg 96 [iv p0] [] (V96 0 r) (N96 0 r) :=
 PureSim.of_Fin Try.func96 (c := c96) (by kernel_rfl) (by kernel_rfl) 0 rfl [0] [] (by kernel_rfl) (B96 p0 r hF)
noncomputable def c76 : Code := Try.f76.code
def F76 (p0 p1 : Int) : Option Int :=
 F96 p0 >>= fun r1 =>
 F96 p1 >>= fun r3 =>
 if r1 then
  if r3 then
   some 0
  else
   some (-1)
 else
  if r3 then
   some 1
  else
   if decide (p0 < p1) then
    some (-1)
   else
    if decide (p0 > p1) then
     some 1
    else
     some 0
def V76 (b : Nat) (r : Int) : Value := iv r
def N76 (b : Nat) (r : Int) : List Blk := []
theorem B76 (p0 p1 r : Int) (hF : F76 p0 p1 = some r) : TS Pg 0 0 c76 (st 20 [(0, iv p0), (1, iv p1)]) [] (NX Pg 0 0 [] (FinP Pg Try.f76 0 (V76 0 r) (N76 0 r))) := by
 unfold F76 at hF
 refine TS.sq (TS.rg (TI.ra 1 [0, 1] (st 20 [(0, iv p0), (1, iv p1)]) (TI.dq (TS.sq ?_))))
 obtain ⟨r1, h2, hF⟩ := of_do hF
 refine TS.rg (TI.ra 1 [0, 1, 7] (st 20 [(0, iv p0), (1, iv p1), (7, iv p0)]) (TI.cf (C96 _ _ h2) (TI.ra 1 [0, 1, 5] (st 20 [(0, iv p0), (1, iv p1), (5, .bool r1)]) (TI.dq (TS.sq ?_)))))
 obtain ⟨r3, h4, hF⟩ := of_do hF
 refine TS.rg (TI.ra 1 [0, 1, 5, 9] (st 20 [(0, iv p0), (1, iv p1), (5, .bool r1), (9, iv p1)]) (TI.cf (C96 _ _ h4) (TI.ra 1 [0, 1, 5, 6] (st 20 [(0, iv p0), (1, iv p1), (5, .bool r1), (6, .bool r3)]) (TI.dq (TS.sq (TS.sq (TS.rg ?_)))))))
 refine TI.ra 1 [0, 1, 6, 11] (st 20 [(0, iv p0), (1, iv p1), (6, .bool r3), (11, .bool r1)]) (TI.dq ?_)
 cases r1 with
 | true =>
  replace hF := of_pos hF rfl
  refine TS.cdT (.tmp 11) (TS.sq (TS.sq (TS.rg (TI.ra 1 [12] (st 20 [(12, .bool r3)]) (TI.dq ?_)))))
  cases r3 with
  | true =>
   replace hF := of_pos hF rfl
   refine TS.cdT (.tmp 12) (TS.sq (TS.rg (TI.ra 1 [4] (st 20 [(4, iv 0)]) (TI.dq (TS.rt (NX.sqR (NX.sqR ?_)))))))
   have hF := sj hF
   subst hF
   exact ⟨.inr rfl, rfl, iv 0, by kernel_rfl, WkV.flat0 (by kernel_rfl) (nl rfl)⟩
  | false =>
   replace hF := of_neg hF rfl
   refine TS.cdF (.tmp 12) (TS.sk (NX.sq (TS.sq (TS.rg (TI.ra 1 [4] (st 20 [(4, iv (-1))]) (TI.dq (TS.rt ?_)))))))
   refine NX.sqR ?_
   have hF := sj hF
   subst hF
   exact ⟨.inr rfl, rfl, iv (-1), by kernel_rfl, WkV.flat0 (by kernel_rfl) (nl rfl)⟩
 | false =>
  replace hF := of_neg hF rfl
  refine TS.cdF (.tmp 11) (TS.sk (NX.sq (TS.sq (TS.sq (TS.rg (TI.ra 1 [0, 1, 13] (st 20 [(0, iv p0), (1, iv p1), (13, .bool r3)]) (TI.dq ?_)))))))
  cases r3 with
  | true =>
   replace hF := of_pos hF rfl
   refine TS.cdT (.tmp 13) (TS.sq (TS.rg (TI.ra 1 [4] (st 20 [(4, iv 1)]) (TI.dq (TS.rt (NX.sqR ?_))))))
   have hF := sj hF
   subst hF
   exact ⟨.inr rfl, rfl, iv 1, by kernel_rfl, WkV.flat0 (by kernel_rfl) (nl rfl)⟩
  | false =>
   replace hF := of_neg hF rfl
   refine TS.cdF (.tmp 13) (TS.sk (NX.sq (TS.sq (TS.sq (TS.rg (TI.ra 3 [0, 1, 16] (st 20 [(0, iv p0), (1, iv p1), (16, .bool (decide (p0 < p1)))]) (TI.dq ?_)))))))
   refine TS.cd (.tmp 16) (decide (p0 < p1)) (fun hc5 => ?_) (fun hc5 => ?_)
   · replace hF := of_pos hF hc5
     refine TS.sq (TS.rg (TI.ra 1 [4] (st 20 [(4, iv (-1))]) (TI.dq (TS.rt (NX.sqR ?_)))))
     have hF := sj hF
     subst hF
     exact ⟨.inr rfl, rfl, iv (-1), by kernel_rfl, WkV.flat0 (by kernel_rfl) (nl rfl)⟩
   replace hF := of_neg hF hc5
   refine TS.sk (NX.sq (TS.sq (TS.sq (TS.rg (TI.ra 3 [19] (st 20 [(19, .bool (decide (p0 > p1)))]) (TI.dq ?_))))))
   refine TS.cd (.tmp 19) (decide (p0 > p1)) (fun hc6 => ?_) (fun hc6 => ?_)
   · replace hF := of_pos hF hc6
     refine TS.sq (TS.rg (TI.ra 1 [4] (st 20 [(4, iv 1)]) (TI.dq (TS.rt (NX.sqR ?_)))))
     have hF := sj hF
     subst hF
     exact ⟨.inr rfl, rfl, iv 1, by kernel_rfl, WkV.flat0 (by kernel_rfl) (nl rfl)⟩
   replace hF := of_neg hF hc6
   refine TS.sk (NX.sq (TS.sq (TS.rg (TI.ra 1 [4] (st 20 [(4, iv 0)]) (TI.dq (TS.rt ?_))))))
   have hF := sj hF
   subst hF
   exact ⟨.inr rfl, rfl, iv 0, by kernel_rfl, WkV.flat0 (by kernel_rfl) (nl rfl)⟩
theorem C76 (p0 p1 r : Int) (hF : F76 p0 p1 = some r) : PureSim Pg 76 [iv p0, iv p1] [] (V76 0 r) (N76 0 r) :=
 PureSim.of_Fin Try.func76 (c := c76) (by kernel_rfl) (by kernel_rfl) 0 rfl [0, 1] [] (by kernel_rfl) (B76 p0 p1 r hF)
noncomputable def c87 : Code := Try.f87.code
def F87 (p0 p1 p2 p3 : Int) : Option Int :=
 F76 (w64 (p0 * p3)) (w64 (p2 * p1)) >>= fun r1 =>
 some r1
def V87 (b : Nat) (r : Int) : Value := iv r
def N87 (b : Nat) (r : Int) : List Blk := []
theorem B87 (p0 p1 p2 p3 r : Int) (hF : F87 p0 p1 p2 p3 = some r) : TS Pg 0 0 c87 (st 16 [(0, ag [iv p0, iv p1]), (1, ag [iv p2, iv p3])]) [] (NX Pg 0 0 [] (FinP Pg Try.f87 0 (V87 0 r) (N87 0 r))) := by
 unfold F87 at hF
 refine TS.sq (TS.rg (TI.rn 3 [2, 3] [0, 1] (st 16 [(2, pt 0 0), (3, pt 1 0)]) [cl 101 [iv p0, iv p1], cl 101 [iv p2, iv p3]] (TI.dq (TS.sq ?_))))
 obtain ⟨r1, h2, hF⟩ := of_do hF
 refine TS.rg (TI.rn 10 [9, 14] [] (st 16 [(9, iv (w64 (p0 * p3))), (14, iv (w64 (p2 * p1)))]) [.dead, .dead] (TI.cf (C76 _ _ _ h2) (TI.ra 1 [4] (st 16 [(4, iv r1)]) (TI.dq (TS.rt ?_)))))
 have hF := sj hF
 subst hF
 exact ⟨.inr rfl, rfl, iv r1, by kernel_rfl, WkV.flat0 (by kernel_rfl) (nl rfl)⟩
theorem C87 (p0 p1 p2 p3 r : Int) (hF : F87 p0 p1 p2 p3 = some r) : PureSim Pg 87 [ag [iv p0, iv p1], ag [iv p2, iv p3]] [] (V87 0 r) (N87 0 r) :=
 PureSim.of_Fin Try.func87 (c := c87) (by kernel_rfl) (by kernel_rfl) 0 rfl [0, 1] [] (by kernel_rfl) (B87 p0 p1 p2 p3 r hF)
end
end Go.Proofs.Ythpfffijnkmdgaa
