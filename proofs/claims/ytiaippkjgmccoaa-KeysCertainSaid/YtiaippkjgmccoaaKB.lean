/- What functions of the program compute, and that they do. -/
import Derived.Test.YtiaippkjgmccoaaKA
set_option linter.unusedVariables false
set_option linter.unusedSimpArgs false
set_option maxRecDepth 100000
set_option maxHeartbeats 4000000
namespace Go.Proofs.Ytiaippkjgmccoaa
open Go Go.Cl
noncomputable section
def e3 (x : Int) : List Value := [.int .i64 x]
noncomputable def c62 : Code := Try.f62.code
def H62_0 (p2 : (List Bool)) (p0 : Int) (p1 : Bool) : List Blk := [ab 4 e4 p2, cl 50 [iv p0, .bool p1]]
def F62 (p0 : Int) (p1 : Bool) (p2 : (List Bool)) : Option Bool :=
 if (0 : Int) ≤ p0 ∧ p0 < (p2.length : Int) then
  some (List.getD p2 (Int.toNat p0) false) >>= fun o2 =>
  some (o2 == p1)
 else none
def V62 (b : Nat) (r : Bool) : Value := .bool r
def N62 (b : Nat) (r : Bool) : List Blk := []
theorem B62 (p0 : Int) (p1 : Bool) (p2 : (List Bool)) (r : Bool) (hF : F62 p0 p1 p2 = some r) : TS Try.prog 1 1 c62 (st 13 [(0, ag [iv p0, .bool p1]), (1, sv 0 p2.length ANY)]) [ab 4 e4 p2] (NX Try.prog 1 1 [] (FinP Try.prog Try.f62 1 (V62 1 r) (N62 1 r))) := by
 unfold F62 at hF
 refine TS.sq (TS.rg (TI.rn 2 [1, 2] [0, 1] (st 13 [(1, sv 0 p2.length ANY), (2, pt 1 0)]) (H62_0 p2 p0 p1) (TI.dn (NX.sq (TS.sq ?_)))))
 have hX := of_guard hF
 clear hF
 obtain ⟨hg1, hF⟩ := hX
 have hX := of_do hF
 clear hF
 obtain ⟨o2, h3, hF⟩ := hX
 replace h3 := Option.some.inj h3
 refine TS.dp [] (fun e he => by cases he) mixed 7 [4] [0] (st 13 [(4, .bool (o2 == p1))]) [ab 4 e4 p2, .dead] ?_ ?_
 · exact QJ.rn (qs (st 13 [(1, sv 0 p2.length ANY), (2, pt 1 0), (5, sv 0 p2.length ANY), (6, pt 1 0), (7, iv p0)]) (H62_0 p2 p0 p1) [] []) 3 (QJ.o { val := .pointer (some ⟨0, 0 + (Int.toNat p0) * 1, none⟩) } (q_ixS 0 0 ((Int.toNat p0) * 1) (by kernel_rfl) hg1) (QJ.o { val := .bool o2 } (q_n1a Try.prog (H62_0 p2 p0 p1) 4 0 (0 + (Int.toNat p0) * 1) p2 e4 1 4 (Int.toNat p0) 0 false h3) (QJ.rn (qs (st 13 [(1, sv 0 p2.length ANY), (2, pt 1 0), (5, sv 0 p2.length ANY), (6, pt 1 0), (7, iv p0), (8, .pointer (some ⟨0, 0 + (Int.toNat p0) * 1, none⟩)), (9, .bool o2), (10, pt 1 1), (11, .bool p1)]) (H62_0 p2 p0 p1) [] []) 2 (QJ.dn ⟨rfl, SJ.la⟩))))
 refine TS.rt ?_
 have hF := Option.some.inj hF
 subst hF
 exact ⟨.inr rfl, rfl, .bool (o2 == p1), by kernel_rfl, WkV.flat0 (by kernel_rfl) (Nat.le_of_ble_eq_true rfl)⟩
theorem C62 (p0 : Int) (p1 : Bool) (p2 : (List Bool)) (r : Bool) (hF : F62 p0 p1 p2 = some r) : PureSim Try.prog 62 [ag [iv p0, .bool p1], sv 0 p2.length ANY] [ab 4 e4 p2] (V62 1 r) (N62 1 r) :=
 PureSim.of_Fin Try.func62 (c := c62) (by kernel_rfl) (by kernel_rfl) 1 rfl [0, 1] [0] (by kernel_rfl) (B62 p0 p1 p2 r hF)
end
end Go.Proofs.Ytiaippkjgmccoaa
