/- What functions of the program compute, and that they do. -/
import Derived.Test.YthpfffijnkmdgaaCR
set_option linter.unusedVariables false
set_option linter.unusedSimpArgs false
set_option maxRecDepth 100000
set_option maxHeartbeats 4000000
namespace Go.Proofs.Ythpfffijnkmdgaa
open Go Go.Cl
noncomputable section
noncomputable def c46 : Code := Try.f46.code
def F46 (p0 : Int) (p1 : Int) : Option Bool :=
 (
  if decide (p1 ≥ 1) then
   if decide (p1 ≤ 6000) then
    if decide (p0 < (w64 (10000 * p1))) then
     some (decide (p0 > (w64 ((-10000) * p1))))
    else
     some (false)
   else
    some (false)
  else
   some (false)
 : Option Bool) >>= fun m4 =>
 some m4
def V46 (b : Nat) (r : Bool) : Value := .bool r
def N46 (b : Nat) (r : Bool) : List Blk := []
theorem B46 (p0 : Int) (p1 : Int) (r : Bool) (hF : F46 p0 p1 = some r) : TS Try.prog 0 0 c46 (st 27 [(0, ag [iv p0, iv p1])]) [] (NX Try.prog 0 0 [] (FinP Try.prog Try.f46 0 (V46 0 r) (N46 0 r))) := by
 unfold F46 at hF
 refine TS.sq (TS.rg (TI.rn 2 [1] [0] (st 27 [(1, pt 0 0)]) [cl 29 [iv p0, iv p1]] (TI.dn (NX.sq (TS.sq ?_)))))
 have hX := of_do hF
 clear hF
 obtain ⟨m4, hm5, hF⟩ := hX
 have hK : NX Try.prog 0 0 [.sq c46.s2.s2] (FinP Try.prog Try.f46 0 (V46 0 r) (N46 0 r)) .normal (st 27 [(2, .bool m4)]) [.dead] := by
  refine NX.sq (TS.rt ?_)
  have hF := Option.some.inj hF
  subst hF
  exact ⟨.inr rfl, rfl, .bool m4, by kernel_rfl, WkV.flat0 (by kernel_rfl) (Nat.le_of_ble_eq_true rfl)⟩
 rcases Bool.eq_false_or_eq_true (decide (p1 ≥ 1)) with hc1 | hc1
 · replace hm5 := of_pos hm5 hc1
   rcases Bool.eq_false_or_eq_true (decide (p1 ≤ 6000)) with hc2 | hc2
   · replace hm5 := of_pos hm5 hc2
     rcases Bool.eq_false_or_eq_true (decide (p0 < (w64 (10000 * p1)))) with hc3 | hc3
     · replace hm5 := of_pos hm5 hc3
       have hm5 := Option.some.inj hm5
       subst hm5
       refine TS.rg (TI.ra 2 [1, 4] (st 27 [(1, pt 0 0), (4, iv p1)]) (TI.o { val := .bool true } (q_conv (e := decide (p1 ≥ 1)) (b := true) (by kernel_rfl) hc1) [1, 5] [0] (st 27 [(1, pt 0 0), (5, .bool true)]) [cl 29 [iv p0, iv p1]] (TI.ra 3 [1, 6, 8] (st 27 [(1, pt 0 0), (6, .bool true), (8, iv p1)]) (TI.o { val := .bool true } (q_conv (e := decide (p1 ≤ 6000)) (b := true) (by kernel_rfl) hc2) [1, 6, 9] [0] (st 27 [(1, pt 0 0), (6, .bool true), (9, .bool true)]) [cl 29 [iv p0, iv p1]] (TI.ra 7 [1, 11, 13, 16] (st 27 [(1, pt 0 0), (11, .bool true), (13, iv p0), (16, iv (w64 (10000 * p1)))]) (TI.o { val := .bool true } (q_conv (e := decide (p0 < (w64 (10000 * p1)))) (b := true) (by kernel_rfl) hc3) [1, 11, 17] [0] (st 27 [(1, pt 0 0), (11, .bool true), (17, .bool true)]) [cl 29 [iv p0, iv p1]] (TI.rn 10 [2] [] (st 27 [(2, .bool (decide (p0 > (w64 ((-10000) * p1)))))]) [.dead] (TI.dn ?_))))))))
       exact hK
     replace hm5 := of_neg hm5 hc3
     have hm5 := Option.some.inj hm5
     subst hm5
     refine TS.rg (TI.ra 2 [1, 4] (st 27 [(1, pt 0 0), (4, iv p1)]) (TI.o { val := .bool true } (q_conv (e := decide (p1 ≥ 1)) (b := true) (by kernel_rfl) hc1) [1, 5] [0] (st 27 [(1, pt 0 0), (5, .bool true)]) [cl 29 [iv p0, iv p1]] (TI.ra 3 [1, 6, 8] (st 27 [(1, pt 0 0), (6, .bool true), (8, iv p1)]) (TI.o { val := .bool true } (q_conv (e := decide (p1 ≤ 6000)) (b := true) (by kernel_rfl) hc2) [1, 6, 9] [0] (st 27 [(1, pt 0 0), (6, .bool true), (9, .bool true)]) [cl 29 [iv p0, iv p1]] (TI.ra 7 [1, 11, 13, 16] (st 27 [(1, pt 0 0), (11, .bool true), (13, iv p0), (16, iv (w64 (10000 * p1)))]) (TI.o { val := .bool false } (q_conv (e := decide (p0 < (w64 (10000 * p1)))) (b := false) (by kernel_rfl) hc3) [1, 11, 17] [0] (st 27 [(1, pt 0 0), (11, .bool true), (17, .bool false)]) [cl 29 [iv p0, iv p1]] (TI.rn 10 [2] [] (st 27 [(2, .bool false)]) [.dead] (TI.dn ?_))))))))
     exact hK
   replace hm5 := of_neg hm5 hc2
   have hm5 := Option.some.inj hm5
   subst hm5
   exact TS.rg (TI.ra 2 [1, 4] (st 27 [(1, pt 0 0), (4, iv p1)]) (TI.o { val := .bool true } (q_conv (e := decide (p1 ≥ 1)) (b := true) (by kernel_rfl) hc1) [1, 5] [0] (st 27 [(1, pt 0 0), (5, .bool true)]) [cl 29 [iv p0, iv p1]] (TI.ra 3 [1, 6, 8] (st 27 [(1, pt 0 0), (6, .bool true), (8, iv p1)]) (TI.o { val := .bool false } (q_conv (e := decide (p1 ≤ 6000)) (b := false) (by kernel_rfl) hc2) [1, 6, 9] [0] (st 27 [(1, pt 0 0), (6, .bool true), (9, .bool false)]) [cl 29 [iv p0, iv p1]] (TI.rn 18 [2] [] (st 27 [(2, .bool false)]) [.dead] (TI.dn hK))))))
 replace hm5 := of_neg hm5 hc1
 have hm5 := Option.some.inj hm5
 subst hm5
 exact TS.rg (TI.ra 2 [1, 4] (st 27 [(1, pt 0 0), (4, iv p1)]) (TI.o { val := .bool false } (q_conv (e := decide (p1 ≥ 1)) (b := false) (by kernel_rfl) hc1) [1, 5] [0] (st 27 [(1, pt 0 0), (5, .bool false)]) [cl 29 [iv p0, iv p1]] (TI.rn 22 [2] [] (st 27 [(2, .bool false)]) [.dead] (TI.dn hK))))
theorem C46 (p0 : Int) (p1 : Int) (r : Bool) (hF : F46 p0 p1 = some r) : PureSim Try.prog 46 [ag [iv p0, iv p1]] [] (V46 0 r) (N46 0 r) :=
 PureSim.of_Fin Try.func46 (c := c46) (by kernel_rfl) (by kernel_rfl) 0 rfl [0] [] (by kernel_rfl) (B46 p0 p1 r hF)
end
end Go.Proofs.Ythpfffijnkmdgaa
