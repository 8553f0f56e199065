/- What functions of the program compute, and that they do. -/
import Derived.Test.YthpfffijnkmdgaaCD
set_option linter.unusedVariables false
set_option linter.unusedSimpArgs false
set_option maxRecDepth 100000
set_option maxHeartbeats 4000000
namespace Go.Proofs.Ythpfffijnkmdgaa
open Go Go.Cl
noncomputable section
noncomputable def c73 : Code := Try.f73.code
def F73 (p0 : Int) (p1 : Int) : Option (Int × Int) :=
 if w64 (3600 * p1) = 0 then none else
 if decide ((Int.tmod p0 (w64 (3600 * p1))) < 0) then
  some (w64 ((Int.tmod p0 (w64 (3600 * p1))) + (w64 (3600 * p1))), p1)
 else
  some (Int.tmod p0 (w64 (3600 * p1)), p1)
def V73 (b : Nat) (r : (Int × Int)) : Value := ag [iv r.1, iv r.2]
def N73 (b : Nat) (r : (Int × Int)) : List Blk := []
theorem B73 (p0 : Int) (p1 : Int) (r : (Int × Int)) (hF : F73 p0 p1 = some r) : TS Try.prog 0 0 c73 (st 21 [(0, ag [iv p0, iv p1])]) [] (NX Try.prog 0 0 [] (FinP Try.prog Try.f73 0 (V73 0 r) (N73 0 r))) := by
 unfold F73 at hF
 refine TS.sq (TS.rg (TI.rn 2 [1, 2] [0, 1] (st 21 [(1, pt 0 0), (2, pt 1 0)]) [cl 101 [iv p0, iv p1], cl 101 [iv 0, iv 0]] (TI.dn (NX.sq (TS.sq (TS.rg (TI.ra 4 [1, 2, 3] (st 21 [(1, pt 0 0), (2, pt 1 0), (3, iv (w64 (3600 * p1)))]) (TI.dn ?_))))))))
 refine NX.sq (TS.sq (TS.sq ?_))
 have hX := of_guardn hF
 clear hF
 obtain ⟨hg1, hF⟩ := hX
 refine TS.rg (TI.ra 3 [1, 2, 3, 9, 10] (st 21 [(1, pt 0 0), (2, pt 1 0), (3, iv (w64 (3600 * p1))), (9, iv p0), (10, iv (w64 (3600 * p1)))]) (TI.o { val := iv (Int.tmod p0 (w64 (3600 * p1))) } (q_int (P := Try.prog) (op := .rem) (ty := 3) (ox := (.tmp 9)) (oy := (.tmp 10)) (k := .i64) (k' := .i64) (y := p0) (z := w64 (3600 * p1)) (by kernel_rfl) (rem_ok hg1)) [1, 2, 3, 11] [0, 1] (st 21 [(1, pt 0 0), (2, pt 1 0), (3, iv (w64 (3600 * p1))), (11, iv (Int.tmod p0 (w64 (3600 * p1))))]) [cl 101 [iv p0, iv p1], cl 101 [iv 0, iv 0]] (TI.ra 1 [1, 2, 3, 4] (st 21 [(1, pt 0 0), (2, pt 1 0), (3, iv (w64 (3600 * p1))), (4, iv (Int.tmod p0 (w64 (3600 * p1))))]) (TI.dn (NX.sq (TS.bk 0 (TS.sq (TS.bk 2 ?_))))))))
 refine TS.sq (TS.bk 1 (TS.sq (TS.sq (TS.rg (TI.ra 3 [1, 2, 3, 4, 12] (st 21 [(1, pt 0 0), (2, pt 1 0), (3, iv (w64 (3600 * p1))), (4, iv (Int.tmod p0 (w64 (3600 * p1)))), (12, .bool (decide ((Int.tmod p0 (w64 (3600 * p1))) < 0)))]) (TI.dn (NX.sq ?_)))))))
 refine TS.cd (.tmp 12) (decide ((Int.tmod p0 (w64 (3600 * p1))) < 0)) (fun hc3 => ?_) (fun hc3 => ?_)
 · replace hF := of_pos hF hc3
   refine TS.ex 1 (NX.sqX (NX.bkX (NX.sq (TS.rg (TI.ra 4 [1, 2, 4] (st 21 [(1, pt 0 0), (2, pt 1 0), (4, iv (w64 ((Int.tmod p0 (w64 (3600 * p1))) + (w64 (3600 * p1)))))]) (TI.dn (NX.bk (NX.sq ?_))))))))
   refine TS.sq (TS.rg (TI.rn 3 [1, 2] [0, 1] (st 21 [(1, pt 0 0), (2, pt 1 0)]) [cl 101 [iv (w64 ((Int.tmod p0 (w64 (3600 * p1))) + (w64 (3600 * p1)))), iv p1], cl 101 [iv 0, iv 0]] (TI.dn (NX.sq (TS.ex 0 (NX.bkX (NX.sq (TS.sq ?_))))))))
   refine TS.rg (TI.rn 2 [2] [1] (st 21 [(2, pt 1 0)]) [.dead, cl 101 [iv (w64 ((Int.tmod p0 (w64 (3600 * p1))) + (w64 (3600 * p1)))), iv p1]] (TI.dn (NX.sq (TS.rt ?_))))
   have hF := Option.some.inj hF
   subst hF
   exact ⟨.inr rfl, rfl, ag [iv (w64 ((Int.tmod p0 (w64 (3600 * p1))) + (w64 (3600 * p1)))), iv p1], by kernel_rfl, WkV.flat0 (by kernel_rfl) (Nat.le_of_ble_eq_true rfl)⟩
 replace hF := of_neg hF hc3
 refine TS.sk (NX.sq (TS.ex 2 (NX.bkY rfl (NX.sqX (NX.bkX (NX.sq (TS.sq (TS.rg ?_))))))))
 refine TI.rn 3 [1, 2] [0, 1] (st 21 [(1, pt 0 0), (2, pt 1 0)]) [cl 101 [iv (Int.tmod p0 (w64 (3600 * p1))), iv p1], cl 101 [iv 0, iv 0]] (TI.dn (NX.sq (TS.ex 0 (NX.bkX (NX.sq (TS.sq (TS.rg (TI.rn 2 [2] [1] (st 21 [(2, pt 1 0)]) [.dead, cl 101 [iv (Int.tmod p0 (w64 (3600 * p1))), iv p1]] ?_))))))))
 refine TI.dn (NX.sq (TS.rt ?_))
 have hF := Option.some.inj hF
 subst hF
 exact ⟨.inr rfl, rfl, ag [iv (Int.tmod p0 (w64 (3600 * p1))), iv p1], by kernel_rfl, WkV.flat0 (by kernel_rfl) (Nat.le_of_ble_eq_true rfl)⟩
theorem C73 (p0 : Int) (p1 : Int) (r : (Int × Int)) (hF : F73 p0 p1 = some r) : PureSim Try.prog 73 [ag [iv p0, iv p1]] [] (V73 0 r) (N73 0 r) :=
 PureSim.of_Fin Try.func73 (c := c73) (by kernel_rfl) (by kernel_rfl) 0 rfl [0] [] (by kernel_rfl) (B73 p0 p1 r hF)
end
end Go.Proofs.Ythpfffijnkmdgaa
