/- What functions of the program compute, and that they do. -/
import Derived.Test.YtenjelagfbceeaaTs7
import Derived.Test.YtenjelagfbceeaaProg
import Derived.KernelRfl
import Derived.Test.YtenjelagfbceeaaGiven
set_option linter.unusedVariables false
set_option linter.unusedSimpArgs false
set_option maxRecDepth 100000
set_option maxHeartbeats 4000000
namespace Go.Proofs.Ytenjelagfbceeaa
open Go Go.Cl
theorem mixed : Try.prog.follows .mixedOrders = true := by kernel_rfl
def e23 (x : (Int × Int)) : List Value := [.int .i64 x.1, .int .i64 x.2]
-- agonic/agoniclaw06.vector
noncomputable def c43 : Code := Try.f43.code
def F43 (p0 : Int) (p1 : Int) : Option (Int × Int) :=
  some (p0, p1)
def V43 (b : Nat) (r : (Int × Int)) : Value := .agg ⟨[.int .i64 r.1, .int .i64 r.2]⟩
def N43 (b : Nat) (r : (Int × Int)) : List Blk := []
theorem B43 (p0 : Int) (p1 : Int) (r : (Int × Int)) (hF : F43 p0 p1 = some r) : TS Try.prog 0 0 c43 (st 8 [(0, .int .i64 p0), (1, .int .i64 p1)]) [] (NX Try.prog 0 0 [] (FinP Try.prog Try.f43 0 (V43 0 r) (N43 0 r))) := by
  unfold F43 at hF
  refine TS.seq' (x := c43.s1) (y := c43.s2) (by kernel_rfl) ?_
  refine TS.region' (id := 0) (b := false) (ops := c43.s1.rops) (by kernel_rfl) rfl ?_
  refine TI.run 1 [0, 1, 4] [0] (a2 := (st 8 [(0, .int .i64 p0), (1, .int .i64 p1), (4, .pointer (some ⟨0, 0, none⟩))])) (h2 := [.cells 23 [.int .i64 0, .int .i64 0]]) (by kernel_rfl) ?_
  refine TI.done (by kernel_rfl) ?_
  refine NX.sq ?_
  refine TS.seq' (x := c43.s2.s1) (y := c43.s2.s2) (by kernel_rfl) ?_
  refine TS.region' (id := 1) (b := false) (ops := c43.s2.s1.rops) (by kernel_rfl) rfl ?_
  refine TI.run 4 [4] [0] (a2 := (st 8 [(4, .pointer (some ⟨0, 0, none⟩))])) (h2 := [.cells 23 [.int .i64 p0, .int .i64 p1]]) (by kernel_rfl) ?_
  refine TI.done (by kernel_rfl) ?_
  refine NX.sq ?_
  refine TS.ret' (by kernel_rfl) ?_
  have hF := Option.some.inj hF
  subst hF
  exact ⟨.inr rfl, rfl, .agg ⟨[.int .i64 p0, .int .i64 p1]⟩, by kernel_rfl, WkV.flat0 (by kernel_rfl) (Nat.le_of_ble_eq_true rfl)⟩
theorem C43 (p0 : Int) (p1 : Int) (r : (Int × Int)) (hF : F43 p0 p1 = some r) : PureSim Try.prog 43 [.int .i64 p0, .int .i64 p1] [] (V43 0 r) (N43 0 r) :=
  PureSim.of_Fin Try.func43 (c := c43) (by kernel_rfl) (by kernel_rfl) 0 rfl [0, 1] [] (by kernel_rfl) (B43 p0 p1 r hF)

-- agonic/agoniclaw06.kit
noncomputable def c49 : Code := Try.f49.code
def F49 (p0 : Int) (p1 : Int) (p2 : Int) (p3 : Int) : Option ((Int × Int) × (Int × Int)) :=
  F43 p0 p1 >>= fun r1 =>
  F43 p2 p3 >>= fun r3 =>
  some ((r1.1, r1.2), (r3.1, r3.2))
def V49 (b : Nat) (r : ((Int × Int) × (Int × Int))) : Value := .agg ⟨[.int .i64 r.1.1, .int .i64 r.1.2, .int .i64 r.2.1, .int .i64 r.2.2]⟩
def N49 (b : Nat) (r : ((Int × Int) × (Int × Int))) : List Blk := []
theorem B49 (p0 : Int) (p1 : Int) (p2 : Int) (p3 : Int) (r : ((Int × Int) × (Int × Int))) (hF : F49 p0 p1 p2 p3 = some r) : TS Try.prog 0 0 c49 (st 16 [(0, .int .i64 p0), (1, .int .i64 p1), (2, .int .i64 p2), (3, .int .i64 p3)]) [] (NX Try.prog 0 0 [] (FinP Try.prog Try.f49 0 (V49 0 r) (N49 0 r))) := by
  unfold F49 at hF
  refine TS.seq' (x := c49.s1) (y := c49.s2) (by kernel_rfl) ?_
  refine TS.region' (id := 0) (b := false) (ops := c49.s1.rops) (by kernel_rfl) rfl ?_
  refine TI.run 1 [0, 1, 2, 3, 8] [0] (a2 := (st 16 [(0, .int .i64 p0), (1, .int .i64 p1), (2, .int .i64 p2), (3, .int .i64 p3), (8, .pointer (some ⟨0, 0, none⟩))])) (h2 := [.cells 25 [.int .i64 0, .int .i64 0, .int .i64 0, .int .i64 0]]) (by kernel_rfl) ?_
  refine TI.done (by kernel_rfl) ?_
  refine NX.sq ?_
  refine TS.seq' (x := c49.s2.s1) (y := c49.s2.s2) (by kernel_rfl) ?_
  have hX := of_do hF
  clear hF
  obtain ⟨r1, h2, hF⟩ := hX
  have hX := of_do hF
  clear hF
  obtain ⟨r3, h4, hF⟩ := hX
  refine TS.region' (id := 1) (b := false) (ops := c49.s2.s1.rops) (by kernel_rfl) rfl ?_
  refine TI.run 2 [2, 3, 8, 9, 10] [0] (a2 := (st 16 [(2, .int .i64 p2), (3, .int .i64 p3), (8, .pointer (some ⟨0, 0, none⟩)), (9, .int .i64 p0), (10, .int .i64 p1)])) (h2 := [.cells 25 [.int .i64 0, .int .i64 0, .int .i64 0, .int .i64 0]]) (by kernel_rfl) ?_
  refine TI.callM (g := 43) (args := [.int .i64 p0, .int .i64 p1]) (v := .agg ⟨[.int .i64 r1.1, .int .i64 r1.2]⟩) (new := []) (by kernel_rfl) (PureSim.any (C43 p0 p1 r1 h2) (flatL (by kernel_rfl)) (by kernel_rfl) [.cells 25 [.int .i64 0, .int .i64 0, .int .i64 0, .int .i64 0]]) [2, 3, 8, 11] [0] (a2 := (st 16 [(2, .int .i64 p2), (3, .int .i64 p3), (8, .pointer (some ⟨0, 0, none⟩)), (11, .agg ⟨[.int .i64 r1.1, .int .i64 r1.2]⟩)])) (h2 := [.cells 25 [.int .i64 0, .int .i64 0, .int .i64 0, .int .i64 0]]) (by kernel_rfl) ?_
  refine TI.run 2 [8, 11, 12, 13] [0] (a2 := (st 16 [(8, .pointer (some ⟨0, 0, none⟩)), (11, .agg ⟨[.int .i64 r1.1, .int .i64 r1.2]⟩), (12, .int .i64 p2), (13, .int .i64 p3)])) (h2 := [.cells 25 [.int .i64 0, .int .i64 0, .int .i64 0, .int .i64 0]]) (by kernel_rfl) ?_
  refine TI.callM (g := 43) (args := [.int .i64 p2, .int .i64 p3]) (v := .agg ⟨[.int .i64 r3.1, .int .i64 r3.2]⟩) (new := []) (by kernel_rfl) (PureSim.any (C43 p2 p3 r3 h4) (flatL (by kernel_rfl)) (by kernel_rfl) [.cells 25 [.int .i64 0, .int .i64 0, .int .i64 0, .int .i64 0]]) [8, 11, 14] [0] (a2 := (st 16 [(8, .pointer (some ⟨0, 0, none⟩)), (11, .agg ⟨[.int .i64 r1.1, .int .i64 r1.2]⟩), (14, .agg ⟨[.int .i64 r3.1, .int .i64 r3.2]⟩)])) (h2 := [.cells 25 [.int .i64 0, .int .i64 0, .int .i64 0, .int .i64 0]]) (by kernel_rfl) ?_
  refine TI.run 2 [8] [0] (a2 := (st 16 [(8, .pointer (some ⟨0, 0, none⟩))])) (h2 := [.cells 25 [.int .i64 r1.1, .int .i64 r1.2, .int .i64 r3.1, .int .i64 r3.2]]) (by kernel_rfl) ?_
  refine TI.done (by kernel_rfl) ?_
  refine NX.sq ?_
  refine TS.ret' (by kernel_rfl) ?_
  have hF := Option.some.inj hF
  subst hF
  exact ⟨.inr rfl, rfl, .agg ⟨[.int .i64 r1.1, .int .i64 r1.2, .int .i64 r3.1, .int .i64 r3.2]⟩, by kernel_rfl, WkV.flat0 (by kernel_rfl) (Nat.le_of_ble_eq_true rfl)⟩
theorem C49 (p0 : Int) (p1 : Int) (p2 : Int) (p3 : Int) (r : ((Int × Int) × (Int × Int))) (hF : F49 p0 p1 p2 p3 = some r) : PureSim Try.prog 49 [.int .i64 p0, .int .i64 p1, .int .i64 p2, .int .i64 p3] [] (V49 0 r) (N49 0 r) :=
  PureSim.of_Fin Try.func49 (c := c49) (by kernel_rfl) (by kernel_rfl) 0 rfl [0, 1, 2, 3] [] (by kernel_rfl) (B49 p0 p1 p2 p3 r hF)

-- agonic/agoniclaw06.area
noncomputable def c45 : Code := Try.f45.code
def F45 (p0 : Int) (p1 : Int) (p2 : Int) (p3 : Int) : Option Int :=
  some (mx (w64 ((w64 (p0 * p3)) - (w64 (p1 * p2)))) (w64 (0 - (w64 ((w64 (p0 * p3)) - (w64 (p1 * p2))))))) >>= fun o1 =>
  some o1
def V45 (b : Nat) (r : Int) : Value := .int .i64 r
def N45 (b : Nat) (r : Int) : List Blk := []
theorem B45 (p0 : Int) (p1 : Int) (p2 : Int) (p3 : Int) (r : Int) (hF : F45 p0 p1 p2 p3 = some r) : TS Try.prog 0 0 c45 (st 21 [(0, .agg ⟨[.int .i64 p0, .int .i64 p1]⟩), (1, .agg ⟨[.int .i64 p2, .int .i64 p3]⟩)]) [] (NX Try.prog 0 0 [] (FinP Try.prog Try.f45 0 (V45 0 r) (N45 0 r))) := by
  unfold F45 at hF
  refine TS.seq' (x := c45.s1) (y := c45.s2) (by kernel_rfl) ?_
  refine TS.region' (id := 0) (b := false) (ops := c45.s1.rops) (by kernel_rfl) rfl ?_
  refine TI.run 3 [2, 3] [0, 1] (a2 := (st 21 [(2, .pointer (some ⟨0, 0, none⟩)), (3, .pointer (some ⟨1, 0, none⟩))])) (h2 := [.cells 23 [.int .i64 p0, .int .i64 p1], .cells 23 [.int .i64 p2, .int .i64 p3]]) (by kernel_rfl) ?_
  refine TI.done (by kernel_rfl) ?_
  refine NX.sq ?_
  refine TS.seq' (x := c45.s2.s1) (y := c45.s2.s2) (by kernel_rfl) ?_
  refine TS.region' (id := 1) (b := false) (ops := c45.s2.s1.rops) (by kernel_rfl) rfl ?_
  refine TI.run 12 [5] [] (a2 := (st 21 [(5, .int .i64 (w64 ((w64 (p0 * p3)) - (w64 (p1 * p2)))))])) (h2 := [.dead, .dead]) (by kernel_rfl) ?_
  refine TI.done (by kernel_rfl) ?_
  refine NX.sq ?_
  refine TS.seq' (x := c45.s2.s2.s1) (y := c45.s2.s2.s2) (by kernel_rfl) ?_
  have hX := of_do hF
  clear hF
  obtain ⟨o1, h2, hF⟩ := hX
  replace h2 := Option.some.inj h2
  refine TS.region' (id := 2) (b := false) (ops := c45.s2.s2.s1.rops) (by kernel_rfl) rfl ?_
  refine TI.run 3 [17, 19] [] (a2 := (st 21 [(17, .int .i64 (w64 ((w64 (p0 * p3)) - (w64 (p1 * p2))))), (19, .int .i64 (w64 (0 - (w64 ((w64 (p0 * p3)) - (w64 (p1 * p2)))))))])) (h2 := [.dead, .dead]) (by kernel_rfl) ?_
  refine TI.op (q := { val := .int .i64 o1 }) (q_convI (e := mx (w64 ((w64 (p0 * p3)) - (w64 (p1 * p2)))) (w64 (0 - (w64 ((w64 (p0 * p3)) - (w64 (p1 * p2))))))) (y := o1) (by kernel_rfl) h2) [20] [] (a2 := (st 21 [(20, .int .i64 o1)])) (h2 := [.dead, .dead]) (by kernel_rfl) ?_
  refine TI.run 1 [4] [] (a2 := (st 21 [(4, .int .i64 o1)])) (h2 := [.dead, .dead]) (by kernel_rfl) ?_
  refine TI.done (by kernel_rfl) ?_
  refine NX.sq ?_
  refine TS.ret' (by kernel_rfl) ?_
  have hF := Option.some.inj hF
  subst hF
  exact ⟨.inr rfl, rfl, .int .i64 o1, by kernel_rfl, WkV.flat0 (by kernel_rfl) (Nat.le_of_ble_eq_true rfl)⟩
theorem C45 (p0 : Int) (p1 : Int) (p2 : Int) (p3 : Int) (r : Int) (hF : F45 p0 p1 p2 p3 = some r) : PureSim Try.prog 45 [.agg ⟨[.int .i64 p0, .int .i64 p1]⟩, .agg ⟨[.int .i64 p2, .int .i64 p3]⟩] [] (V45 0 r) (N45 0 r) :=
  PureSim.of_Fin Try.func45 (c := c45) (by kernel_rfl) (by kernel_rfl) 0 rfl [0, 1] [] (by kernel_rfl) (B45 p0 p1 p2 p3 r hF)

-- (agonic/agoniclaw06.Ship).made
noncomputable def c36 : Code := Try.f36.code
def F36 (p0 : Int) (p1 : Int) (p2 : Int) (p3 : Int) (p4 : Int) (p5 : Int) : Option (((Int × Int) × (Int × Int)) × (Int × Int)) :=
  F49 (Int.tmod (w64 p0) 13) (Int.tmod (w64 p1) 13) (Int.tmod (w64 p2) 13) (Int.tmod (w64 p3) 13) >>= fun r1 =>
  F45 r1.1.1 r1.1.2 r1.2.1 r1.2.2 >>= fun r3 =>
  (
    if r3 == 0 then
      F49 3 1 1 4 >>= fun r17 =>
      some (r17.1.1, r17.1.2, r17.2.1, r17.2.2)
    else
      some (r1.1.1, r1.1.2, r1.2.1, r1.2.2)
  : Option (Int × Int × Int × Int)) >>= fun m12 =>
  F43 (Int.tmod (w64 p4) 200) (Int.tmod (w64 p5) 200) >>= fun r14 =>
  some (((m12.1, m12.2.1), (m12.2.2.1, m12.2.2.2)), (r14.1, r14.2))
def V36 (b : Nat) (r : (((Int × Int) × (Int × Int)) × (Int × Int))) : Value := .tuple ⟨[.agg ⟨[.int .i64 r.1.1.1, .int .i64 r.1.1.2, .int .i64 r.1.2.1, .int .i64 r.1.2.2]⟩, .agg ⟨[.int .i64 r.2.1, .int .i64 r.2.2]⟩]⟩
def N36 (b : Nat) (r : (((Int × Int) × (Int × Int)) × (Int × Int))) : List Blk := []
theorem B36 (p0 : Int) (p1 : Int) (p2 : Int) (p3 : Int) (p4 : Int) (p5 : Int) (r : (((Int × Int) × (Int × Int)) × (Int × Int))) (hF : F36 p0 p1 p2 p3 p4 p5 = some r) : TS Try.prog 0 0 c36 (st 45 [(0, .agg ⟨[.int .i8 p0, .int .i8 p1, .int .i8 p2, .int .i8 p3, .int .i16 p4, .int .i16 p5]⟩)]) [] (NX Try.prog 0 0 [] (FinP Try.prog Try.f36 0 (V36 0 r) (N36 0 r))) := by
  unfold F36 at hF
  refine TS.seq' (x := c36.s1) (y := c36.s2) (by kernel_rfl) ?_
  refine TS.region' (id := 0) (b := false) (ops := c36.s1.rops) (by kernel_rfl) rfl ?_
  refine TI.run 3 [1, 2, 3] [0, 1, 2] (a2 := (st 45 [(1, .pointer (some ⟨0, 0, none⟩)), (2, .pointer (some ⟨1, 0, none⟩)), (3, .pointer (some ⟨2, 0, none⟩))])) (h2 := [.cells 77 [.int .i8 p0, .int .i8 p1, .int .i8 p2, .int .i8 p3, .int .i16 p4, .int .i16 p5], .cells 25 [.int .i64 0, .int .i64 0, .int .i64 0, .int .i64 0], .cells 23 [.int .i64 0, .int .i64 0]]) (by kernel_rfl) ?_
  refine TI.done (by kernel_rfl) ?_
  refine NX.sq ?_
  refine TS.seq' (x := c36.s2.s1) (y := c36.s2.s2) (by kernel_rfl) ?_
  have hX := of_do hF
  clear hF
  obtain ⟨r1, h2, hF⟩ := hX
  refine TS.region' (id := 1) (b := false) (ops := c36.s2.s1.rops) (by kernel_rfl) rfl ?_
  refine TI.run 20 [1, 2, 3, 9, 14, 19, 24] [0, 1, 2] (a2 := (st 45 [(1, .pointer (some ⟨0, 0, none⟩)), (2, .pointer (some ⟨1, 0, none⟩)), (3, .pointer (some ⟨2, 0, none⟩)), (9, .int .i64 (Int.tmod (w64 p0) 13)), (14, .int .i64 (Int.tmod (w64 p1) 13)), (19, .int .i64 (Int.tmod (w64 p2) 13)), (24, .int .i64 (Int.tmod (w64 p3) 13))])) (h2 := [.cells 77 [.int .i8 p0, .int .i8 p1, .int .i8 p2, .int .i8 p3, .int .i16 p4, .int .i16 p5], .cells 25 [.int .i64 0, .int .i64 0, .int .i64 0, .int .i64 0], .cells 23 [.int .i64 0, .int .i64 0]]) (by kernel_rfl) ?_
  refine TI.callM (g := 49) (args := [.int .i64 (Int.tmod (w64 p0) 13), .int .i64 (Int.tmod (w64 p1) 13), .int .i64 (Int.tmod (w64 p2) 13), .int .i64 (Int.tmod (w64 p3) 13)]) (v := .agg ⟨[.int .i64 r1.1.1, .int .i64 r1.1.2, .int .i64 r1.2.1, .int .i64 r1.2.2]⟩) (new := []) (by kernel_rfl) (PureSim.any (C49 (Int.tmod (w64 p0) 13) (Int.tmod (w64 p1) 13) (Int.tmod (w64 p2) 13) (Int.tmod (w64 p3) 13) r1 h2) (flatL (by kernel_rfl)) (by kernel_rfl) [.cells 77 [.int .i8 p0, .int .i8 p1, .int .i8 p2, .int .i8 p3, .int .i16 p4, .int .i16 p5], .cells 25 [.int .i64 0, .int .i64 0, .int .i64 0, .int .i64 0], .cells 23 [.int .i64 0, .int .i64 0]]) [1, 2, 3, 25] [0, 1, 2] (a2 := (st 45 [(1, .pointer (some ⟨0, 0, none⟩)), (2, .pointer (some ⟨1, 0, none⟩)), (3, .pointer (some ⟨2, 0, none⟩)), (25, .agg ⟨[.int .i64 r1.1.1, .int .i64 r1.1.2, .int .i64 r1.2.1, .int .i64 r1.2.2]⟩)])) (h2 := [.cells 77 [.int .i8 p0, .int .i8 p1, .int .i8 p2, .int .i8 p3, .int .i16 p4, .int .i16 p5], .cells 25 [.int .i64 0, .int .i64 0, .int .i64 0, .int .i64 0], .cells 23 [.int .i64 0, .int .i64 0]]) (by kernel_rfl) ?_
  refine TI.run 2 [1, 2, 3, 4] [0, 1, 2, 3] (a2 := (st 45 [(1, .pointer (some ⟨0, 0, none⟩)), (2, .pointer (some ⟨1, 0, none⟩)), (3, .pointer (some ⟨2, 0, none⟩)), (4, .pointer (some ⟨3, 0, none⟩))])) (h2 := [.cells 77 [.int .i8 p0, .int .i8 p1, .int .i8 p2, .int .i8 p3, .int .i16 p4, .int .i16 p5], .cells 25 [.int .i64 0, .int .i64 0, .int .i64 0, .int .i64 0], .cells 23 [.int .i64 0, .int .i64 0], .cells 25 [.int .i64 r1.1.1, .int .i64 r1.1.2, .int .i64 r1.2.1, .int .i64 r1.2.2]]) (by kernel_rfl) ?_
  refine TI.done (by kernel_rfl) ?_
  refine NX.sq ?_
  refine TS.seq' (x := c36.s2.s2.s1) (y := c36.s2.s2.s2) (by kernel_rfl) ?_
  refine TS.seq' (x := c36.s2.s2.s1.s1) (y := c36.s2.s2.s1.s2) (by kernel_rfl) ?_
  have hX := of_do hF
  clear hF
  obtain ⟨r3, h4, hF⟩ := hX
  refine TS.region' (id := 2) (b := false) (ops := c36.s2.s2.s1.s1.rops) (by kernel_rfl) rfl ?_
  refine TI.run 4 [1, 2, 3, 4, 27, 29] [0, 1, 2, 3] (a2 := (st 45 [(1, .pointer (some ⟨0, 0, none⟩)), (2, .pointer (some ⟨1, 0, none⟩)), (3, .pointer (some ⟨2, 0, none⟩)), (4, .pointer (some ⟨3, 0, none⟩)), (27, .agg ⟨[.int .i64 r1.1.1, .int .i64 r1.1.2]⟩), (29, .agg ⟨[.int .i64 r1.2.1, .int .i64 r1.2.2]⟩)])) (h2 := [.cells 77 [.int .i8 p0, .int .i8 p1, .int .i8 p2, .int .i8 p3, .int .i16 p4, .int .i16 p5], .cells 25 [.int .i64 0, .int .i64 0, .int .i64 0, .int .i64 0], .cells 23 [.int .i64 0, .int .i64 0], .cells 25 [.int .i64 r1.1.1, .int .i64 r1.1.2, .int .i64 r1.2.1, .int .i64 r1.2.2]]) (by kernel_rfl) ?_
  refine TI.callM (g := 45) (args := [.agg ⟨[.int .i64 r1.1.1, .int .i64 r1.1.2]⟩, .agg ⟨[.int .i64 r1.2.1, .int .i64 r1.2.2]⟩]) (v := .int .i64 r3) (new := []) (by kernel_rfl) (PureSim.any (C45 r1.1.1 r1.1.2 r1.2.1 r1.2.2 r3 h4) (flatL (by kernel_rfl)) (by kernel_rfl) [.cells 77 [.int .i8 p0, .int .i8 p1, .int .i8 p2, .int .i8 p3, .int .i16 p4, .int .i16 p5], .cells 25 [.int .i64 0, .int .i64 0, .int .i64 0, .int .i64 0], .cells 23 [.int .i64 0, .int .i64 0], .cells 25 [.int .i64 r1.1.1, .int .i64 r1.1.2, .int .i64 r1.2.1, .int .i64 r1.2.2]]) [1, 2, 3, 4, 30] [0, 1, 2, 3] (a2 := (st 45 [(1, .pointer (some ⟨0, 0, none⟩)), (2, .pointer (some ⟨1, 0, none⟩)), (3, .pointer (some ⟨2, 0, none⟩)), (4, .pointer (some ⟨3, 0, none⟩)), (30, .int .i64 r3)])) (h2 := [.cells 77 [.int .i8 p0, .int .i8 p1, .int .i8 p2, .int .i8 p3, .int .i16 p4, .int .i16 p5], .cells 25 [.int .i64 0, .int .i64 0, .int .i64 0, .int .i64 0], .cells 23 [.int .i64 0, .int .i64 0], .cells 25 [.int .i64 r1.1.1, .int .i64 r1.1.2, .int .i64 r1.2.1, .int .i64 r1.2.2]]) (by kernel_rfl) ?_
  refine TI.run 1 [1, 2, 3, 4, 31] [0, 1, 2, 3] (a2 := (st 45 [(1, .pointer (some ⟨0, 0, none⟩)), (2, .pointer (some ⟨1, 0, none⟩)), (3, .pointer (some ⟨2, 0, none⟩)), (4, .pointer (some ⟨3, 0, none⟩)), (31, .bool (r3 == 0))])) (h2 := [.cells 77 [.int .i8 p0, .int .i8 p1, .int .i8 p2, .int .i8 p3, .int .i16 p4, .int .i16 p5], .cells 25 [.int .i64 0, .int .i64 0, .int .i64 0, .int .i64 0], .cells 23 [.int .i64 0, .int .i64 0], .cells 25 [.int .i64 r1.1.1, .int .i64 r1.1.2, .int .i64 r1.2.1, .int .i64 r1.2.2]]) (by kernel_rfl) ?_
  refine TI.done (by kernel_rfl) ?_
  refine NX.sq ?_
  have hX := of_do hF
  clear hF
  obtain ⟨m12, hm13, hF⟩ := hX
  have hK : NX Try.prog 0 0 [.sq c36.s2.s2.s2] (FinP Try.prog Try.f36 0 (V36 0 r) (N36 0 r)) .normal (st 45 [(1, .pointer (some ⟨0, 0, none⟩)), (2, .pointer (some ⟨1, 0, none⟩)), (3, .pointer (some ⟨2, 0, none⟩)), (4, .pointer (some ⟨3, 0, none⟩))]) [.cells 77 [.int .i8 p0, .int .i8 p1, .int .i8 p2, .int .i8 p3, .int .i16 p4, .int .i16 p5], .cells 25 [.int .i64 0, .int .i64 0, .int .i64 0, .int .i64 0], .cells 23 [.int .i64 0, .int .i64 0], .cells 25 [.int .i64 m12.1, .int .i64 m12.2.1, .int .i64 m12.2.2.1, .int .i64 m12.2.2.2]] := by
    refine NX.sq ?_
    refine TS.seq' (x := c36.s2.s2.s2.s1) (y := c36.s2.s2.s2.s2) (by kernel_rfl) ?_
    have hX := of_do hF
    clear hF
    obtain ⟨r14, h15, hF⟩ := hX
    have hT : ∀ e ∈ ([⟨43, [.int .i64 (Int.tmod (w64 p4) 200), .int .i64 (Int.tmod (w64 p5) 200)], [.cells 77 [.int .i8 p0, .int .i8 p1, .int .i8 p2, .int .i8 p3, .int .i16 p4, .int .i16 p5], .cells 25 [.int .i64 0, .int .i64 0, .int .i64 0, .int .i64 0], .cells 23 [.int .i64 0, .int .i64 0], .cells 25 [.int .i64 m12.1, .int .i64 m12.2.1, .int .i64 m12.2.2.1, .int .i64 m12.2.2.2]], .agg ⟨[.int .i64 r14.1, .int .i64 r14.2]⟩, []⟩] : List Entry), PureSim Try.prog e.g e.args e.h e.v e.new := by
      intro e he
      simp only [List.mem_cons, List.not_mem_nil, or_false] at he
      rcases he with rfl
      · exact (PureSim.any (C43 (Int.tmod (w64 p4) 200) (Int.tmod (w64 p5) 200) r14 h15) (flatL (by kernel_rfl)) (by kernel_rfl) [.cells 77 [.int .i8 p0, .int .i8 p1, .int .i8 p2, .int .i8 p3, .int .i16 p4, .int .i16 p5], .cells 25 [.int .i64 0, .int .i64 0, .int .i64 0, .int .i64 0], .cells 23 [.int .i64 0, .int .i64 0], .cells 25 [.int .i64 m12.1, .int .i64 m12.2.1, .int .i64 m12.2.2.1, .int .i64 m12.2.2.2]])
    refine TS.draw' (id := 4) (b := true) (ops := c36.s2.s2.s2.s1.rops) (fin := ({ act := (st 45 [(1, .pointer (some ⟨0, 0, none⟩)), (2, .pointer (some ⟨1, 0, none⟩)), (3, .pointer (some ⟨2, 0, none⟩)), (4, .pointer (some ⟨3, 0, none⟩)), (33, .agg ⟨[.int .i64 m12.1, .int .i64 m12.2.1, .int .i64 m12.2.2.1, .int .i64 m12.2.2.2]⟩), (34, .pointer (some ⟨0, 4, none⟩)), (35, .pointer (some ⟨0, 4, none⟩)), (36, .int .i16 p4), (37, .int .i64 (w64 p4)), (38, .int .i64 (Int.tmod (w64 p4) 200)), (39, .pointer (some ⟨0, 4, none⟩)), (40, .pointer (some ⟨0, 5, none⟩)), (41, .int .i16 p5), (42, .int .i64 (w64 p5)), (43, .int .i64 (Int.tmod (w64 p5) 200)), (44, .agg ⟨[.int .i64 r14.1, .int .i64 r14.2]⟩)]), heap := [.cells 77 [.int .i8 p0, .int .i8 p1, .int .i8 p2, .int .i8 p3, .int .i16 p4, .int .i16 p5], .cells 25 [.int .i64 0, .int .i64 0, .int .i64 0, .int .i64 0], .cells 23 [.int .i64 0, .int .i64 0], .cells 25 [.int .i64 m12.1, .int .i64 m12.2.1, .int .i64 m12.2.2.1, .int .i64 m12.2.2.2]], own := [], upds := [] } : QSt)) (fin2 := ({ act := (st 45 [(1, .pointer (some ⟨0, 0, none⟩)), (2, .pointer (some ⟨1, 0, none⟩)), (3, .pointer (some ⟨2, 0, none⟩)), (4, .pointer (some ⟨3, 0, none⟩)), (33, .agg ⟨[.int .i64 m12.1, .int .i64 m12.2.1, .int .i64 m12.2.2.1, .int .i64 m12.2.2.2]⟩), (34, .pointer (some ⟨0, 4, none⟩)), (35, .pointer (some ⟨0, 4, none⟩)), (36, .int .i16 p4), (37, .int .i64 (w64 p4)), (38, .int .i64 (Int.tmod (w64 p4) 200)), (39, .pointer (some ⟨0, 4, none⟩)), (40, .pointer (some ⟨0, 5, none⟩)), (41, .int .i16 p5), (42, .int .i64 (w64 p5)), (43, .int .i64 (Int.tmod (w64 p5) 200)), (44, .agg ⟨[.int .i64 r14.1, .int .i64 r14.2]⟩)]), heap := [.cells 77 [.int .i8 p0, .int .i8 p1, .int .i8 p2, .int .i8 p3, .int .i16 p4, .int .i16 p5], .cells 25 [.int .i64 0, .int .i64 0, .int .i64 0, .int .i64 0], .cells 23 [.int .i64 0, .int .i64 0], .cells 25 [.int .i64 m12.1, .int .i64 m12.2.1, .int .i64 m12.2.2.1, .int .i64 m12.2.2.2]], own := [], upds := [] } : QSt)) (a1 := (st 45 [(1, .pointer (some ⟨0, 0, none⟩)), (2, .pointer (some ⟨1, 0, none⟩)), (3, .pointer (some ⟨2, 0, none⟩)), (4, .pointer (some ⟨3, 0, none⟩)), (33, .agg ⟨[.int .i64 m12.1, .int .i64 m12.2.1, .int .i64 m12.2.2.1, .int .i64 m12.2.2.2]⟩), (34, .pointer (some ⟨0, 4, none⟩)), (35, .pointer (some ⟨0, 4, none⟩)), (36, .int .i16 p4), (37, .int .i64 (w64 p4)), (38, .int .i64 (Int.tmod (w64 p4) 200)), (39, .pointer (some ⟨0, 4, none⟩)), (40, .pointer (some ⟨0, 5, none⟩)), (41, .int .i16 p5), (42, .int .i64 (w64 p5)), (43, .int .i64 (Int.tmod (w64 p5) 200)), (44, .agg ⟨[.int .i64 r14.1, .int .i64 r14.2]⟩)])) (h1 := [.cells 77 [.int .i8 p0, .int .i8 p1, .int .i8 p2, .int .i8 p3, .int .i16 p4, .int .i16 p5], .cells 25 [.int .i64 m12.1, .int .i64 m12.2.1, .int .i64 m12.2.2.1, .int .i64 m12.2.2.2], .cells 23 [.int .i64 r14.1, .int .i64 r14.2], .cells 25 [.int .i64 m12.1, .int .i64 m12.2.1, .int .i64 m12.2.2.1, .int .i64 m12.2.2.2]]) (a2 := (st 45 [(2, .pointer (some ⟨1, 0, none⟩)), (3, .pointer (some ⟨2, 0, none⟩))])) (h2 := [.dead, .cells 25 [.int .i64 m12.1, .int .i64 m12.2.1, .int .i64 m12.2.2.1, .int .i64 m12.2.2.2], .cells 23 [.int .i64 r14.1, .int .i64 r14.2], .dead]) [⟨43, [.int .i64 (Int.tmod (w64 p4) 200), .int .i64 (Int.tmod (w64 p5) 200)], [.cells 77 [.int .i8 p0, .int .i8 p1, .int .i8 p2, .int .i8 p3, .int .i16 p4, .int .i16 p5], .cells 25 [.int .i64 0, .int .i64 0, .int .i64 0, .int .i64 0], .cells 23 [.int .i64 0, .int .i64 0], .cells 25 [.int .i64 m12.1, .int .i64 m12.2.1, .int .i64 m12.2.2.1, .int .i64 m12.2.2.2]], .agg ⟨[.int .i64 r14.1, .int .i64 r14.2]⟩, []⟩] hT mixed (by kernel_rfl) rfl 12 (by kernel_rfl) [] ?_ rfl (.inl ⟨rfl, rfl⟩) ?_ [2, 3] [1, 2] (by kernel_rfl) ?_
    · refine QI.run (s1 := ({ act := (st 45 [(1, .pointer (some ⟨0, 0, none⟩)), (2, .pointer (some ⟨1, 0, none⟩)), (3, .pointer (some ⟨2, 0, none⟩)), (4, .pointer (some ⟨3, 0, none⟩)), (33, .agg ⟨[.int .i64 m12.1, .int .i64 m12.2.1, .int .i64 m12.2.2.1, .int .i64 m12.2.2.2]⟩), (34, .pointer (some ⟨0, 4, none⟩)), (35, .pointer (some ⟨0, 4, none⟩)), (36, .int .i16 p4), (37, .int .i64 (w64 p4)), (38, .int .i64 (Int.tmod (w64 p4) 200)), (39, .pointer (some ⟨0, 4, none⟩)), (40, .pointer (some ⟨0, 5, none⟩)), (41, .int .i16 p5), (42, .int .i64 (w64 p5)), (43, .int .i64 (Int.tmod (w64 p5) 200))]), heap := [.cells 77 [.int .i8 p0, .int .i8 p1, .int .i8 p2, .int .i8 p3, .int .i16 p4, .int .i16 p5], .cells 25 [.int .i64 0, .int .i64 0, .int .i64 0, .int .i64 0], .cells 23 [.int .i64 0, .int .i64 0], .cells 25 [.int .i64 m12.1, .int .i64 m12.2.1, .int .i64 m12.2.2.1, .int .i64 m12.2.2.2]], own := [], upds := [] } : QSt)) 11 (by kernel_rfl) (by kernel_rfl) ?_
      refine QI.op (q := { val := .agg ⟨[.int .i64 r14.1, .int .i64 r14.2]⟩, new := [] }) (s1 := ({ act := (st 45 [(1, .pointer (some ⟨0, 0, none⟩)), (2, .pointer (some ⟨1, 0, none⟩)), (3, .pointer (some ⟨2, 0, none⟩)), (4, .pointer (some ⟨3, 0, none⟩)), (33, .agg ⟨[.int .i64 m12.1, .int .i64 m12.2.1, .int .i64 m12.2.2.1, .int .i64 m12.2.2.2]⟩), (34, .pointer (some ⟨0, 4, none⟩)), (35, .pointer (some ⟨0, 4, none⟩)), (36, .int .i16 p4), (37, .int .i64 (w64 p4)), (38, .int .i64 (Int.tmod (w64 p4) 200)), (39, .pointer (some ⟨0, 4, none⟩)), (40, .pointer (some ⟨0, 5, none⟩)), (41, .int .i16 p5), (42, .int .i64 (w64 p5)), (43, .int .i64 (Int.tmod (w64 p5) 200)), (44, .agg ⟨[.int .i64 r14.1, .int .i64 r14.2]⟩)]), heap := [.cells 77 [.int .i8 p0, .int .i8 p1, .int .i8 p2, .int .i8 p3, .int .i16 p4, .int .i16 p5], .cells 25 [.int .i64 0, .int .i64 0, .int .i64 0, .int .i64 0], .cells 23 [.int .i64 0, .int .i64 0], .cells 25 [.int .i64 m12.1, .int .i64 m12.2.1, .int .i64 m12.2.2.1, .int .i64 m12.2.2.2]], own := [], upds := [] } : QSt)) (by decide) (qOf_call (g := 43) (args := [.int .i64 (Int.tmod (w64 p4) 200), .int .i64 (Int.tmod (w64 p5) 200)]) (by kernel_rfl) lookC_hit) (by kernel_rfl) ?_
      exact QI.done (by kernel_rfl)
    · refine SI.run (a2 := (st 45 [(1, .pointer (some ⟨0, 0, none⟩)), (2, .pointer (some ⟨1, 0, none⟩)), (3, .pointer (some ⟨2, 0, none⟩)), (4, .pointer (some ⟨3, 0, none⟩)), (33, .agg ⟨[.int .i64 m12.1, .int .i64 m12.2.1, .int .i64 m12.2.2.1, .int .i64 m12.2.2.2]⟩), (34, .pointer (some ⟨0, 4, none⟩)), (35, .pointer (some ⟨0, 4, none⟩)), (36, .int .i16 p4), (37, .int .i64 (w64 p4)), (38, .int .i64 (Int.tmod (w64 p4) 200)), (39, .pointer (some ⟨0, 4, none⟩)), (40, .pointer (some ⟨0, 5, none⟩)), (41, .int .i16 p5), (42, .int .i64 (w64 p5)), (43, .int .i64 (Int.tmod (w64 p5) 200)), (44, .agg ⟨[.int .i64 r14.1, .int .i64 r14.2]⟩)])) (h2 := [.cells 77 [.int .i8 p0, .int .i8 p1, .int .i8 p2, .int .i8 p3, .int .i16 p4, .int .i16 p5], .cells 25 [.int .i64 m12.1, .int .i64 m12.2.1, .int .i64 m12.2.2.1, .int .i64 m12.2.2.2], .cells 23 [.int .i64 r14.1, .int .i64 r14.2], .cells 25 [.int .i64 m12.1, .int .i64 m12.2.1, .int .i64 m12.2.2.1, .int .i64 m12.2.2.2]]) 2 (by kernel_rfl) ?_
      exact SI.done (by kernel_rfl)
    refine TS.ret' (by kernel_rfl) ?_
    have hF := Option.some.inj hF
    subst hF
    exact ⟨.inr rfl, rfl, .tuple ⟨[.agg ⟨[.int .i64 m12.1, .int .i64 m12.2.1, .int .i64 m12.2.2.1, .int .i64 m12.2.2.2]⟩, .agg ⟨[.int .i64 r14.1, .int .i64 r14.2]⟩]⟩, by kernel_rfl, WkV.flat0 (by kernel_rfl) (Nat.le_of_ble_eq_true rfl)⟩
  clear hF
  have hF := hm13
  clear hm13
  refine TS.start ?_
  refine TS.cond' (o := (.tmp 31)) (x := c36.s2.s2.s1.s2.th) (y := c36.s2.s2.s1.s2.el) (b := r3 == 0) (by kernel_rfl) (by kernel_rfl) (fun hc16 => ?_) (fun hc16 => ?_)
  · replace hF := of_pos hF hc16
    have hX := of_do hF
    clear hF
    obtain ⟨r17, h18, hF⟩ := hX
    refine TS.region' (id := 3) (b := false) (ops := c36.s2.s2.s1.s2.th.rops) (by kernel_rfl) rfl ?_
    refine TI.callM (g := 49) (args := [.int .i64 3, .int .i64 1, .int .i64 1, .int .i64 4]) (v := .agg ⟨[.int .i64 r17.1.1, .int .i64 r17.1.2, .int .i64 r17.2.1, .int .i64 r17.2.2]⟩) (new := []) (by kernel_rfl) (PureSim.any (C49 3 1 1 4 r17 h18) (flatL (by kernel_rfl)) (by kernel_rfl) [.cells 77 [.int .i8 p0, .int .i8 p1, .int .i8 p2, .int .i8 p3, .int .i16 p4, .int .i16 p5], .cells 25 [.int .i64 0, .int .i64 0, .int .i64 0, .int .i64 0], .cells 23 [.int .i64 0, .int .i64 0], .cells 25 [.int .i64 r1.1.1, .int .i64 r1.1.2, .int .i64 r1.2.1, .int .i64 r1.2.2]]) [1, 2, 3, 4, 32] [0, 1, 2, 3] (a2 := (st 45 [(1, .pointer (some ⟨0, 0, none⟩)), (2, .pointer (some ⟨1, 0, none⟩)), (3, .pointer (some ⟨2, 0, none⟩)), (4, .pointer (some ⟨3, 0, none⟩)), (32, .agg ⟨[.int .i64 r17.1.1, .int .i64 r17.1.2, .int .i64 r17.2.1, .int .i64 r17.2.2]⟩)])) (h2 := [.cells 77 [.int .i8 p0, .int .i8 p1, .int .i8 p2, .int .i8 p3, .int .i16 p4, .int .i16 p5], .cells 25 [.int .i64 0, .int .i64 0, .int .i64 0, .int .i64 0], .cells 23 [.int .i64 0, .int .i64 0], .cells 25 [.int .i64 r1.1.1, .int .i64 r1.1.2, .int .i64 r1.2.1, .int .i64 r1.2.2]]) (by kernel_rfl) ?_
    refine TI.run 1 [1, 2, 3, 4] [0, 1, 2, 3] (a2 := (st 45 [(1, .pointer (some ⟨0, 0, none⟩)), (2, .pointer (some ⟨1, 0, none⟩)), (3, .pointer (some ⟨2, 0, none⟩)), (4, .pointer (some ⟨3, 0, none⟩))])) (h2 := [.cells 77 [.int .i8 p0, .int .i8 p1, .int .i8 p2, .int .i8 p3, .int .i16 p4, .int .i16 p5], .cells 25 [.int .i64 0, .int .i64 0, .int .i64 0, .int .i64 0], .cells 23 [.int .i64 0, .int .i64 0], .cells 25 [.int .i64 r17.1.1, .int .i64 r17.1.2, .int .i64 r17.2.1, .int .i64 r17.2.2]]) (by kernel_rfl) ?_
    refine TI.done (by kernel_rfl) ?_
    have hF := Option.some.inj hF
    subst hF
    exact TS.weak (Wk.anew (base := 0) (L := 0) (f := [0, 1, 2, 3]) (by decide) (by decide) (Nat.le_of_ble_eq_true rfl) rfl (.cons (At.blk (by kernel_rfl) (RnB.lit (.cons (.flat (by kernel_rfl)) (.cons (.flat (by kernel_rfl)) (.cons (.flat (by kernel_rfl)) (.cons (.flat (by kernel_rfl)) (.cons (.flat (by kernel_rfl)) (.cons (.flat (by kernel_rfl)) .nil)))))))) (.cons (At.blk (by kernel_rfl) (RnB.lit (.cons (.flat (by kernel_rfl)) (.cons (.flat (by kernel_rfl)) (.cons (.flat (by kernel_rfl)) (.cons (.flat (by kernel_rfl)) .nil)))))) (.cons (At.blk (by kernel_rfl) (RnB.lit (.cons (.flat (by kernel_rfl)) (.cons (.flat (by kernel_rfl)) .nil)))) (.cons (At.blk (by kernel_rfl) (RnB.lit (.cons (.flat (by kernel_rfl)) (.cons (.flat (by kernel_rfl)) (.cons (.flat (by kernel_rfl)) (.cons (.flat (by kernel_rfl)) .nil)))))) (.nil _))))) (LRn.stx [1, 2, 3, 4] [.pointer (some ⟨0, 0, none⟩), .pointer (some ⟨1, 0, none⟩), .pointer (some ⟨2, 0, none⟩), .pointer (some ⟨3, 0, none⟩)] [.pointer (some ⟨0, 0, none⟩), .pointer (some ⟨1, 0, none⟩), .pointer (some ⟨2, 0, none⟩), .pointer (some ⟨3, 0, none⟩)] (.cons (Rn.ptr _ _ _ (Nat.le_of_ble_eq_true rfl) rfl) (.cons (Rn.ptr _ _ _ (Nat.le_of_ble_eq_true rfl) rfl) (.cons (Rn.ptr _ _ _ (Nat.le_of_ble_eq_true rfl) rfl) (.cons (Rn.ptr _ _ _ (Nat.le_of_ble_eq_true rfl) rfl) .nil)))) (by kernel_rfl) (by kernel_rfl) rfl) rfl rfl) hK
  · replace hF := of_neg hF hc16
    refine TS.skip' (by kernel_rfl) ?_
    have hF := Option.some.inj hF
    subst hF
    exact TS.weak (Wk.anew (base := 0) (L := 0) (f := [0, 1, 2, 3]) (by decide) (by decide) (Nat.le_of_ble_eq_true rfl) rfl (.cons (At.blk (by kernel_rfl) (RnB.lit (.cons (.flat (by kernel_rfl)) (.cons (.flat (by kernel_rfl)) (.cons (.flat (by kernel_rfl)) (.cons (.flat (by kernel_rfl)) (.cons (.flat (by kernel_rfl)) (.cons (.flat (by kernel_rfl)) .nil)))))))) (.cons (At.blk (by kernel_rfl) (RnB.lit (.cons (.flat (by kernel_rfl)) (.cons (.flat (by kernel_rfl)) (.cons (.flat (by kernel_rfl)) (.cons (.flat (by kernel_rfl)) .nil)))))) (.cons (At.blk (by kernel_rfl) (RnB.lit (.cons (.flat (by kernel_rfl)) (.cons (.flat (by kernel_rfl)) .nil)))) (.cons (At.blk (by kernel_rfl) (RnB.lit (.cons (.flat (by kernel_rfl)) (.cons (.flat (by kernel_rfl)) (.cons (.flat (by kernel_rfl)) (.cons (.flat (by kernel_rfl)) .nil)))))) (.nil _))))) (LRn.stx [1, 2, 3, 4] [.pointer (some ⟨0, 0, none⟩), .pointer (some ⟨1, 0, none⟩), .pointer (some ⟨2, 0, none⟩), .pointer (some ⟨3, 0, none⟩)] [.pointer (some ⟨0, 0, none⟩), .pointer (some ⟨1, 0, none⟩), .pointer (some ⟨2, 0, none⟩), .pointer (some ⟨3, 0, none⟩)] (.cons (Rn.ptr _ _ _ (Nat.le_of_ble_eq_true rfl) rfl) (.cons (Rn.ptr _ _ _ (Nat.le_of_ble_eq_true rfl) rfl) (.cons (Rn.ptr _ _ _ (Nat.le_of_ble_eq_true rfl) rfl) (.cons (Rn.ptr _ _ _ (Nat.le_of_ble_eq_true rfl) rfl) .nil)))) (by kernel_rfl) (by kernel_rfl) rfl) rfl rfl) hK
theorem C36 (p0 : Int) (p1 : Int) (p2 : Int) (p3 : Int) (p4 : Int) (p5 : Int) (r : (((Int × Int) × (Int × Int)) × (Int × Int))) (hF : F36 p0 p1 p2 p3 p4 p5 = some r) : PureSim Try.prog 36 [.agg ⟨[.int .i8 p0, .int .i8 p1, .int .i8 p2, .int .i8 p3, .int .i16 p4, .int .i16 p5]⟩] [] (V36 0 r) (N36 0 r) :=
  PureSim.of_Fin Try.func36 (c := c36) (by kernel_rfl) (by kernel_rfl) 0 rfl [0] [] (by kernel_rfl) (B36 p0 p1 p2 p3 p4 p5 r hF)

-- agonic/magnet.between
noncomputable def c68 : Code := Try.f68.code
def F68 (p0 : Int) (p1 : Int) (p2 : Int) : Option Bool :=
  (
    if decide (p0 ≤ p1) then
      some (decide (p1 ≤ p2))
    else
      some (false)
  : Option Bool) >>= fun m2 =>
  some m2
def V68 (b : Nat) (r : Bool) : Value := .bool r
def N68 (b : Nat) (r : Bool) : List Blk := []
theorem B68 (p0 : Int) (p1 : Int) (p2 : Int) (r : Bool) (hF : F68 p0 p1 p2 = some r) : TS Try.prog 0 0 c68 (st 15 [(0, .int .i64 p0), (1, .int .i64 p1), (2, .int .i64 p2)]) [] (NX Try.prog 0 0 [] (FinP Try.prog Try.f68 0 (V68 0 r) (N68 0 r))) := by
  unfold F68 at hF
  refine TS.seq' (x := c68.s1) (y := c68.s2) (by kernel_rfl) ?_
  refine TS.region' (id := 0) (b := false) (ops := c68.s1.rops) (by kernel_rfl) rfl ?_
  refine TI.run 1 [0, 1, 2] [] (a2 := (st 15 [(0, .int .i64 p0), (1, .int .i64 p1), (2, .int .i64 p2)])) (h2 := []) (by kernel_rfl) ?_
  refine TI.done (by kernel_rfl) ?_
  refine NX.sq ?_
  refine TS.seq' (x := c68.s2.s1) (y := c68.s2.s2) (by kernel_rfl) ?_
  have hX := of_do hF
  clear hF
  obtain ⟨m2, hm3, hF⟩ := hX
  have hK : NX Try.prog 0 0 [.sq c68.s2.s2] (FinP Try.prog Try.f68 0 (V68 0 r) (N68 0 r)) .normal (st 15 [(6, .bool m2)]) [] := by
    refine NX.sq ?_
    refine TS.ret' (by kernel_rfl) ?_
    have hF := Option.some.inj hF
    subst hF
    exact ⟨.inr rfl, rfl, .bool m2, by kernel_rfl, WkV.flat0 (by kernel_rfl) (Nat.le_of_ble_eq_true rfl)⟩
  rcases Bool.eq_false_or_eq_true (decide (p0 ≤ p1)) with hc1 | hc1
  · replace hm3 := of_pos hm3 hc1
    have hm3 := Option.some.inj hm3
    subst hm3
    refine TS.region' (id := 1) (b := false) (ops := c68.s2.s1.rops) (by kernel_rfl) rfl ?_
    refine TI.run 2 [1, 2, 7, 8] [] (a2 := (st 15 [(1, .int .i64 p1), (2, .int .i64 p2), (7, .int .i64 p0), (8, .int .i64 p1)])) (h2 := []) (by kernel_rfl) ?_
    refine TI.op (q := { val := .bool true }) (q_conv (e := decide (p0 ≤ p1)) (b := true) (by kernel_rfl) hc1) [1, 2, 9] [] (a2 := (st 15 [(1, .int .i64 p1), (2, .int .i64 p2), (9, .bool true)])) (h2 := []) (by kernel_rfl) ?_
    refine TI.run 6 [6] [] (a2 := (st 15 [(6, .bool (decide (p1 ≤ p2)))])) (h2 := []) (by kernel_rfl) ?_
    refine TI.done (by kernel_rfl) ?_
    exact hK
  · replace hm3 := of_neg hm3 hc1
    have hm3 := Option.some.inj hm3
    subst hm3
    refine TS.region' (id := 1) (b := false) (ops := c68.s2.s1.rops) (by kernel_rfl) rfl ?_
    refine TI.run 2 [1, 2, 7, 8] [] (a2 := (st 15 [(1, .int .i64 p1), (2, .int .i64 p2), (7, .int .i64 p0), (8, .int .i64 p1)])) (h2 := []) (by kernel_rfl) ?_
    refine TI.op (q := { val := .bool false }) (q_conv (e := decide (p0 ≤ p1)) (b := false) (by kernel_rfl) hc1) [1, 2, 9] [] (a2 := (st 15 [(1, .int .i64 p1), (2, .int .i64 p2), (9, .bool false)])) (h2 := []) (by kernel_rfl) ?_
    refine TI.run 6 [6] [] (a2 := (st 15 [(6, .bool false)])) (h2 := []) (by kernel_rfl) ?_
    refine TI.done (by kernel_rfl) ?_
    exact hK
theorem C68 (p0 : Int) (p1 : Int) (p2 : Int) (r : Bool) (hF : F68 p0 p1 p2 = some r) : PureSim Try.prog 68 [.int .i64 p0, .int .i64 p1, .int .i64 p2] [] (V68 0 r) (N68 0 r) :=
  PureSim.of_Fin Try.func68 (c := c68) (by kernel_rfl) (by kernel_rfl) 0 rfl [0, 1, 2] [] (by kernel_rfl) (B68 p0 p1 p2 r hF)

-- (agonic/magnet.Vector).within
noncomputable def c58 : Code := Try.f58.code
def F58 (p0 : Int) (p1 : Int) (p2 : Int) : Option Bool :=
  F68 (w64 (0 - p2)) p0 p2 >>= fun r1 =>
  (
    if r1 then
      F68 (w64 (0 - p2)) p1 p2 >>= fun r3 =>
      some (r3)
    else
      some (false)
  : Option Bool) >>= fun m5 =>
  some m5
def V58 (b : Nat) (r : Bool) : Value := .bool r
def N58 (b : Nat) (r : Bool) : List Blk := []
theorem B58 (p0 : Int) (p1 : Int) (p2 : Int) (r : Bool) (hF : F58 p0 p1 p2 = some r) : TS Try.prog 0 0 c58 (st 19 [(0, .agg ⟨[.int .i64 p0, .int .i64 p1]⟩), (1, .int .i64 p2)]) [] (NX Try.prog 0 0 [] (FinP Try.prog Try.f58 0 (V58 0 r) (N58 0 r))) := by
  unfold F58 at hF
  refine TS.seq' (x := c58.s1) (y := c58.s2) (by kernel_rfl) ?_
  refine TS.region' (id := 0) (b := false) (ops := c58.s1.rops) (by kernel_rfl) rfl ?_
  refine TI.run 2 [1, 2] [0] (a2 := (st 19 [(1, .int .i64 p2), (2, .pointer (some ⟨0, 0, none⟩))])) (h2 := [.cells 23 [.int .i64 p0, .int .i64 p1]]) (by kernel_rfl) ?_
  refine TI.done (by kernel_rfl) ?_
  refine NX.sq ?_
  refine TS.seq' (x := c58.s2.s1) (y := c58.s2.s2) (by kernel_rfl) ?_
  have hX := of_do hF
  clear hF
  obtain ⟨r1, h2, hF⟩ := hX
  have hX := of_do hF
  clear hF
  obtain ⟨m5, hm6, hF⟩ := hX
  have hK : NX Try.prog 0 0 [.sq c58.s2.s2] (FinP Try.prog Try.f58 0 (V58 0 r) (N58 0 r)) .normal (st 19 [(4, .bool m5)]) [.dead] := by
    refine NX.sq ?_
    refine TS.ret' (by kernel_rfl) ?_
    have hF := Option.some.inj hF
    subst hF
    exact ⟨.inr rfl, rfl, .bool m5, by kernel_rfl, WkV.flat0 (by kernel_rfl) (Nat.le_of_ble_eq_true rfl)⟩
  cases r1 with
  | true =>
    replace hm6 := of_pos hm6 rfl
    have hX := of_do hm6
    clear hm6
    obtain ⟨r3, h4, hm6⟩ := hX
    have hm6 := Option.some.inj hm6
    subst hm6
    refine TS.region' (id := 1) (b := false) (ops := c58.s2.s1.rops) (by kernel_rfl) rfl ?_
    refine TI.run 5 [1, 2, 6, 8, 9] [0] (a2 := (st 19 [(1, .int .i64 p2), (2, .pointer (some ⟨0, 0, none⟩)), (6, .int .i64 (w64 (0 - p2))), (8, .int .i64 p0), (9, .int .i64 p2)])) (h2 := [.cells 23 [.int .i64 p0, .int .i64 p1]]) (by kernel_rfl) ?_
    refine TI.callM (g := 68) (args := [.int .i64 (w64 (0 - p2)), .int .i64 p0, .int .i64 p2]) (v := .bool true) (new := []) (by kernel_rfl) (PureSim.any (C68 (w64 (0 - p2)) p0 p2 true h2) (flatL (by kernel_rfl)) (by kernel_rfl) [.cells 23 [.int .i64 p0, .int .i64 p1]]) [1, 2, 10] [0] (a2 := (st 19 [(1, .int .i64 p2), (2, .pointer (some ⟨0, 0, none⟩)), (10, .bool true)])) (h2 := [.cells 23 [.int .i64 p0, .int .i64 p1]]) (by kernel_rfl) ?_
    refine TI.run 6 [11, 13, 15, 16] [] (a2 := (st 19 [(11, .bool true), (13, .int .i64 (w64 (0 - p2))), (15, .int .i64 p1), (16, .int .i64 p2)])) (h2 := [.dead]) (by kernel_rfl) ?_
    refine TI.callM (g := 68) (args := [.int .i64 (w64 (0 - p2)), .int .i64 p1, .int .i64 p2]) (v := .bool r3) (new := []) (by kernel_rfl) (PureSim.any (C68 (w64 (0 - p2)) p1 p2 r3 h4) (flatL (by kernel_rfl)) (by kernel_rfl) [.dead]) [11, 17] [] (a2 := (st 19 [(11, .bool true), (17, .bool r3)])) (h2 := [.dead]) (by kernel_rfl) ?_
    refine TI.run 2 [4] [] (a2 := (st 19 [(4, .bool r3)])) (h2 := [.dead]) (by kernel_rfl) ?_
    refine TI.done (by kernel_rfl) ?_
    exact hK
  | false =>
    replace hm6 := of_neg hm6 rfl
    have hm6 := Option.some.inj hm6
    subst hm6
    refine TS.region' (id := 1) (b := false) (ops := c58.s2.s1.rops) (by kernel_rfl) rfl ?_
    refine TI.run 5 [1, 2, 6, 8, 9] [0] (a2 := (st 19 [(1, .int .i64 p2), (2, .pointer (some ⟨0, 0, none⟩)), (6, .int .i64 (w64 (0 - p2))), (8, .int .i64 p0), (9, .int .i64 p2)])) (h2 := [.cells 23 [.int .i64 p0, .int .i64 p1]]) (by kernel_rfl) ?_
    refine TI.callM (g := 68) (args := [.int .i64 (w64 (0 - p2)), .int .i64 p0, .int .i64 p2]) (v := .bool false) (new := []) (by kernel_rfl) (PureSim.any (C68 (w64 (0 - p2)) p0 p2 false h2) (flatL (by kernel_rfl)) (by kernel_rfl) [.cells 23 [.int .i64 p0, .int .i64 p1]]) [1, 2, 10] [0] (a2 := (st 19 [(1, .int .i64 p2), (2, .pointer (some ⟨0, 0, none⟩)), (10, .bool false)])) (h2 := [.cells 23 [.int .i64 p0, .int .i64 p1]]) (by kernel_rfl) ?_
    refine TI.run 9 [4] [] (a2 := (st 19 [(4, .bool false)])) (h2 := [.dead]) (by kernel_rfl) ?_
    refine TI.done (by kernel_rfl) ?_
    exact hK
theorem C58 (p0 : Int) (p1 : Int) (p2 : Int) (r : Bool) (hF : F58 p0 p1 p2 = some r) : PureSim Try.prog 58 [.agg ⟨[.int .i64 p0, .int .i64 p1]⟩, .int .i64 p2] [] (V58 0 r) (N58 0 r) :=
  PureSim.of_Fin Try.func58 (c := c58) (by kernel_rfl) (by kernel_rfl) 0 rfl [0, 1] [] (by kernel_rfl) (B58 p0 p1 p2 r hF)

-- (agonic/magnet.Vector).cross
noncomputable def c59 : Code := Try.f59.code
def F59 (p0 : Int) (p1 : Int) (p2 : Int) (p3 : Int) : Option Int :=
  some (w64 ((w64 (p0 * p3)) - (w64 (p1 * p2))))
def V59 (b : Nat) (r : Int) : Value := .int .i64 r
def N59 (b : Nat) (r : Int) : List Blk := []
theorem B59 (p0 : Int) (p1 : Int) (p2 : Int) (p3 : Int) (r : Int) (hF : F59 p0 p1 p2 p3 = some r) : TS Try.prog 0 0 c59 (st 16 [(0, .agg ⟨[.int .i64 p0, .int .i64 p1]⟩), (1, .agg ⟨[.int .i64 p2, .int .i64 p3]⟩)]) [] (NX Try.prog 0 0 [] (FinP Try.prog Try.f59 0 (V59 0 r) (N59 0 r))) := by
  unfold F59 at hF
  refine TS.seq' (x := c59.s1) (y := c59.s2) (by kernel_rfl) ?_
  refine TS.region' (id := 0) (b := false) (ops := c59.s1.rops) (by kernel_rfl) rfl ?_
  refine TI.run 3 [2, 3] [0, 1] (a2 := (st 16 [(2, .pointer (some ⟨0, 0, none⟩)), (3, .pointer (some ⟨1, 0, none⟩))])) (h2 := [.cells 23 [.int .i64 p0, .int .i64 p1], .cells 23 [.int .i64 p2, .int .i64 p3]]) (by kernel_rfl) ?_
  refine TI.done (by kernel_rfl) ?_
  refine NX.sq ?_
  refine TS.seq' (x := c59.s2.s1) (y := c59.s2.s2) (by kernel_rfl) ?_
  refine TS.region' (id := 1) (b := false) (ops := c59.s2.s1.rops) (by kernel_rfl) rfl ?_
  refine TI.run 12 [4] [] (a2 := (st 16 [(4, .int .i64 (w64 ((w64 (p0 * p3)) - (w64 (p1 * p2)))))])) (h2 := [.dead, .dead]) (by kernel_rfl) ?_
  refine TI.done (by kernel_rfl) ?_
  refine NX.sq ?_
  refine TS.ret' (by kernel_rfl) ?_
  have hF := Option.some.inj hF
  subst hF
  exact ⟨.inr rfl, rfl, .int .i64 (w64 ((w64 (p0 * p3)) - (w64 (p1 * p2)))), by kernel_rfl, WkV.flat0 (by kernel_rfl) (Nat.le_of_ble_eq_true rfl)⟩
theorem C59 (p0 : Int) (p1 : Int) (p2 : Int) (p3 : Int) (r : Int) (hF : F59 p0 p1 p2 p3 = some r) : PureSim Try.prog 59 [.agg ⟨[.int .i64 p0, .int .i64 p1]⟩, .agg ⟨[.int .i64 p2, .int .i64 p3]⟩] [] (V59 0 r) (N59 0 r) :=
  PureSim.of_Fin Try.func59 (c := c59) (by kernel_rfl) (by kernel_rfl) 0 rfl [0, 1] [] (by kernel_rfl) (B59 p0 p1 p2 p3 r hF)

-- agonic/magnet.Check
noncomputable def c20 : Code := Try.f20.code
def F20 (p0 : Int) (p1 : Int) (p2 : Int) (p3 : Int) : Option Int :=
  F58 p0 p1 1000 >>= fun r1 =>
  (
    if r1 then
      F58 p2 p3 1000 >>= fun r3 =>
      if r3 then
        some (false)
      else
        some (true)
    else
      some (true)
  : Option Bool) >>= fun m5 =>
  if m5 then
    some 1
  else
    F59 p0 p1 p2 p3 >>= fun r6 =>
    if r6 == 0 then
      some 15
    else
      some 0
def V20 (b : Nat) (r : Int) : Value := .int .i64 r
def N20 (b : Nat) (r : Int) : List Blk := []
theorem B20 (p0 : Int) (p1 : Int) (p2 : Int) (p3 : Int) (r : Int) (hF : F20 p0 p1 p2 p3 = some r) : TS Try.prog 0 0 c20 (st 21 [(0, .agg ⟨[.int .i64 p0, .int .i64 p1, .int .i64 p2, .int .i64 p3]⟩)]) [] (NX Try.prog 0 0 [] (FinP Try.prog Try.f20 0 (V20 0 r) (N20 0 r))) := by
  unfold F20 at hF
  refine TS.seq' (x := c20.s1) (y := c20.s2) (by kernel_rfl) ?_
  refine TS.region' (id := 0) (b := false) (ops := c20.s1.rops) (by kernel_rfl) rfl ?_
  refine TI.run 2 [1] [0] (a2 := (st 21 [(1, .pointer (some ⟨0, 0, none⟩))])) (h2 := [.cells 25 [.int .i64 p0, .int .i64 p1, .int .i64 p2, .int .i64 p3]]) (by kernel_rfl) ?_
  refine TI.done (by kernel_rfl) ?_
  refine NX.sq ?_
  refine TS.seq' (x := c20.s2.s1) (y := c20.s2.s2) (by kernel_rfl) ?_
  refine TS.block' (id := 0) (x := c20.s2.s1.bd) (by kernel_rfl) ?_
  refine TS.seq' (x := c20.s2.s1.bd.s1) (y := c20.s2.s1.bd.s2) (by kernel_rfl) ?_
  have hX := of_do hF
  clear hF
  obtain ⟨r1, h2, hF⟩ := hX
  have hX := of_do hF
  clear hF
  obtain ⟨m5, hm9, hF⟩ := hX
  have hK : NX Try.prog 0 0 [.sq c20.s2.s1.bd.s2, .bk 0, .sq c20.s2.s2] (FinP Try.prog Try.f20 0 (V20 0 r) (N20 0 r)) .normal (st 21 [(1, .pointer (some ⟨0, 0, none⟩)), (3, .bool m5)]) [.cells 25 [.int .i64 p0, .int .i64 p1, .int .i64 p2, .int .i64 p3]] := by
    refine NX.sq ?_
    cases m5 with
    | true =>
      replace hF := of_pos hF rfl
      refine TS.condT' (o := (.tmp 3)) (x := c20.s2.s1.bd.s2.th) (y := c20.s2.s1.bd.s2.el) (by kernel_rfl) (by kernel_rfl) ?_
      refine TS.seq' (x := c20.s2.s1.bd.s2.th.s1) (y := c20.s2.s1.bd.s2.th.s2) (by kernel_rfl) ?_
      refine TS.region' (id := 2) (b := false) (ops := c20.s2.s1.bd.s2.th.s1.rops) (by kernel_rfl) rfl ?_
      refine TI.run 1 [2] [] (a2 := (st 21 [(2, .int .i64 1)])) (h2 := [.dead]) (by kernel_rfl) ?_
      refine TI.done (by kernel_rfl) ?_
      refine NX.sq ?_
      refine TS.ret' (by kernel_rfl) ?_
      refine NX.bkR ?_
      refine NX.sqR ?_
      have hF := Option.some.inj hF
      subst hF
      exact ⟨.inr rfl, rfl, .int .i64 1, by kernel_rfl, WkV.flat0 (by kernel_rfl) (Nat.le_of_ble_eq_true rfl)⟩
    | false =>
      replace hF := of_neg hF rfl
      refine TS.condF' (o := (.tmp 3)) (x := c20.s2.s1.bd.s2.th) (y := c20.s2.s1.bd.s2.el) (by kernel_rfl) (by kernel_rfl) ?_
      refine TS.seq' (x := c20.s2.s1.bd.s2.el.s1) (y := c20.s2.s1.bd.s2.el.s2) (by kernel_rfl) ?_
      have hX := of_do hF
      clear hF
      obtain ⟨r6, h7, hF⟩ := hX
      refine TS.region' (id := 3) (b := false) (ops := c20.s2.s1.bd.s2.el.s1.rops) (by kernel_rfl) rfl ?_
      refine TI.run 4 [16, 18] [] (a2 := (st 21 [(16, .agg ⟨[.int .i64 p0, .int .i64 p1]⟩), (18, .agg ⟨[.int .i64 p2, .int .i64 p3]⟩)])) (h2 := [.dead]) (by kernel_rfl) ?_
      refine TI.callM (g := 59) (args := [.agg ⟨[.int .i64 p0, .int .i64 p1]⟩, .agg ⟨[.int .i64 p2, .int .i64 p3]⟩]) (v := .int .i64 r6) (new := []) (by kernel_rfl) (PureSim.any (C59 p0 p1 p2 p3 r6 h7) (flatL (by kernel_rfl)) (by kernel_rfl) [.dead]) [19] [] (a2 := (st 21 [(19, .int .i64 r6)])) (h2 := [.dead]) (by kernel_rfl) ?_
      refine TI.run 2 [14] [] (a2 := (st 21 [(14, .bool (r6 == 0))])) (h2 := [.dead]) (by kernel_rfl) ?_
      refine TI.done (by kernel_rfl) ?_
      refine NX.sq ?_
      refine TS.cond' (o := (.tmp 14)) (x := c20.s2.s1.bd.s2.el.s2.th) (y := c20.s2.s1.bd.s2.el.s2.el) (b := r6 == 0) (by kernel_rfl) (by kernel_rfl) (fun hc8 => ?_) (fun hc8 => ?_)
      · replace hF := of_pos hF hc8
        refine TS.seq' (x := c20.s2.s1.bd.s2.el.s2.th.s1) (y := c20.s2.s1.bd.s2.el.s2.th.s2) (by kernel_rfl) ?_
        refine TS.region' (id := 4) (b := false) (ops := c20.s2.s1.bd.s2.el.s2.th.s1.rops) (by kernel_rfl) rfl ?_
        refine TI.run 1 [2] [] (a2 := (st 21 [(2, .int .i64 15)])) (h2 := [.dead]) (by kernel_rfl) ?_
        refine TI.done (by kernel_rfl) ?_
        refine NX.sq ?_
        refine TS.ret' (by kernel_rfl) ?_
        refine NX.bkR ?_
        refine NX.sqR ?_
        have hF := Option.some.inj hF
        subst hF
        exact ⟨.inr rfl, rfl, .int .i64 15, by kernel_rfl, WkV.flat0 (by kernel_rfl) (Nat.le_of_ble_eq_true rfl)⟩
      · replace hF := of_neg hF hc8
        refine TS.skip' (by kernel_rfl) ?_
        refine NX.bk ?_
        refine NX.sq ?_
        refine TS.seq' (x := c20.s2.s2.s1) (y := c20.s2.s2.s2) (by kernel_rfl) ?_
        refine TS.region' (id := 5) (b := false) (ops := c20.s2.s2.s1.rops) (by kernel_rfl) rfl ?_
        refine TI.run 1 [2] [] (a2 := (st 21 [(2, .int .i64 0)])) (h2 := [.dead]) (by kernel_rfl) ?_
        refine TI.done (by kernel_rfl) ?_
        refine NX.sq ?_
        refine TS.ret' (by kernel_rfl) ?_
        have hF := Option.some.inj hF
        subst hF
        exact ⟨.inr rfl, rfl, .int .i64 0, by kernel_rfl, WkV.flat0 (by kernel_rfl) (Nat.le_of_ble_eq_true rfl)⟩
  cases r1 with
  | true =>
    replace hm9 := of_pos hm9 rfl
    have hX := of_do hm9
    clear hm9
    obtain ⟨r3, h4, hm9⟩ := hX
    cases r3 with
    | true =>
      replace hm9 := of_pos hm9 rfl
      have hm9 := Option.some.inj hm9
      subst hm9
      refine TS.region' (id := 1) (b := false) (ops := c20.s2.s1.bd.s1.rops) (by kernel_rfl) rfl ?_
      refine TI.run 2 [1, 5] [0] (a2 := (st 21 [(1, .pointer (some ⟨0, 0, none⟩)), (5, .agg ⟨[.int .i64 p0, .int .i64 p1]⟩)])) (h2 := [.cells 25 [.int .i64 p0, .int .i64 p1, .int .i64 p2, .int .i64 p3]]) (by kernel_rfl) ?_
      refine TI.callM (g := 58) (args := [.agg ⟨[.int .i64 p0, .int .i64 p1]⟩, .int .i64 1000]) (v := .bool true) (new := []) (by kernel_rfl) (PureSim.any (C58 p0 p1 1000 true h2) (flatL (by kernel_rfl)) (by kernel_rfl) [.cells 25 [.int .i64 p0, .int .i64 p1, .int .i64 p2, .int .i64 p3]]) [1, 6] [0] (a2 := (st 21 [(1, .pointer (some ⟨0, 0, none⟩)), (6, .bool true)])) (h2 := [.cells 25 [.int .i64 p0, .int .i64 p1, .int .i64 p2, .int .i64 p3]]) (by kernel_rfl) ?_
      refine TI.run 4 [1, 8, 10] [0] (a2 := (st 21 [(1, .pointer (some ⟨0, 0, none⟩)), (8, .bool false), (10, .agg ⟨[.int .i64 p2, .int .i64 p3]⟩)])) (h2 := [.cells 25 [.int .i64 p0, .int .i64 p1, .int .i64 p2, .int .i64 p3]]) (by kernel_rfl) ?_
      refine TI.callM (g := 58) (args := [.agg ⟨[.int .i64 p2, .int .i64 p3]⟩, .int .i64 1000]) (v := .bool true) (new := []) (by kernel_rfl) (PureSim.any (C58 p2 p3 1000 true h4) (flatL (by kernel_rfl)) (by kernel_rfl) [.cells 25 [.int .i64 p0, .int .i64 p1, .int .i64 p2, .int .i64 p3]]) [1, 8, 11] [0] (a2 := (st 21 [(1, .pointer (some ⟨0, 0, none⟩)), (8, .bool false), (11, .bool true)])) (h2 := [.cells 25 [.int .i64 p0, .int .i64 p1, .int .i64 p2, .int .i64 p3]]) (by kernel_rfl) ?_
      refine TI.run 3 [1, 3] [0] (a2 := (st 21 [(1, .pointer (some ⟨0, 0, none⟩)), (3, .bool false)])) (h2 := [.cells 25 [.int .i64 p0, .int .i64 p1, .int .i64 p2, .int .i64 p3]]) (by kernel_rfl) ?_
      refine TI.done (by kernel_rfl) ?_
      exact hK
    | false =>
      replace hm9 := of_neg hm9 rfl
      have hm9 := Option.some.inj hm9
      subst hm9
      refine TS.region' (id := 1) (b := false) (ops := c20.s2.s1.bd.s1.rops) (by kernel_rfl) rfl ?_
      refine TI.run 2 [1, 5] [0] (a2 := (st 21 [(1, .pointer (some ⟨0, 0, none⟩)), (5, .agg ⟨[.int .i64 p0, .int .i64 p1]⟩)])) (h2 := [.cells 25 [.int .i64 p0, .int .i64 p1, .int .i64 p2, .int .i64 p3]]) (by kernel_rfl) ?_
      refine TI.callM (g := 58) (args := [.agg ⟨[.int .i64 p0, .int .i64 p1]⟩, .int .i64 1000]) (v := .bool true) (new := []) (by kernel_rfl) (PureSim.any (C58 p0 p1 1000 true h2) (flatL (by kernel_rfl)) (by kernel_rfl) [.cells 25 [.int .i64 p0, .int .i64 p1, .int .i64 p2, .int .i64 p3]]) [1, 6] [0] (a2 := (st 21 [(1, .pointer (some ⟨0, 0, none⟩)), (6, .bool true)])) (h2 := [.cells 25 [.int .i64 p0, .int .i64 p1, .int .i64 p2, .int .i64 p3]]) (by kernel_rfl) ?_
      refine TI.run 4 [1, 8, 10] [0] (a2 := (st 21 [(1, .pointer (some ⟨0, 0, none⟩)), (8, .bool false), (10, .agg ⟨[.int .i64 p2, .int .i64 p3]⟩)])) (h2 := [.cells 25 [.int .i64 p0, .int .i64 p1, .int .i64 p2, .int .i64 p3]]) (by kernel_rfl) ?_
      refine TI.callM (g := 58) (args := [.agg ⟨[.int .i64 p2, .int .i64 p3]⟩, .int .i64 1000]) (v := .bool false) (new := []) (by kernel_rfl) (PureSim.any (C58 p2 p3 1000 false h4) (flatL (by kernel_rfl)) (by kernel_rfl) [.cells 25 [.int .i64 p0, .int .i64 p1, .int .i64 p2, .int .i64 p3]]) [1, 8, 11] [0] (a2 := (st 21 [(1, .pointer (some ⟨0, 0, none⟩)), (8, .bool false), (11, .bool false)])) (h2 := [.cells 25 [.int .i64 p0, .int .i64 p1, .int .i64 p2, .int .i64 p3]]) (by kernel_rfl) ?_
      refine TI.run 3 [1, 3] [0] (a2 := (st 21 [(1, .pointer (some ⟨0, 0, none⟩)), (3, .bool true)])) (h2 := [.cells 25 [.int .i64 p0, .int .i64 p1, .int .i64 p2, .int .i64 p3]]) (by kernel_rfl) ?_
      refine TI.done (by kernel_rfl) ?_
      exact hK
  | false =>
    replace hm9 := of_neg hm9 rfl
    have hm9 := Option.some.inj hm9
    subst hm9
    refine TS.region' (id := 1) (b := false) (ops := c20.s2.s1.bd.s1.rops) (by kernel_rfl) rfl ?_
    refine TI.run 2 [1, 5] [0] (a2 := (st 21 [(1, .pointer (some ⟨0, 0, none⟩)), (5, .agg ⟨[.int .i64 p0, .int .i64 p1]⟩)])) (h2 := [.cells 25 [.int .i64 p0, .int .i64 p1, .int .i64 p2, .int .i64 p3]]) (by kernel_rfl) ?_
    refine TI.callM (g := 58) (args := [.agg ⟨[.int .i64 p0, .int .i64 p1]⟩, .int .i64 1000]) (v := .bool false) (new := []) (by kernel_rfl) (PureSim.any (C58 p0 p1 1000 false h2) (flatL (by kernel_rfl)) (by kernel_rfl) [.cells 25 [.int .i64 p0, .int .i64 p1, .int .i64 p2, .int .i64 p3]]) [1, 6] [0] (a2 := (st 21 [(1, .pointer (some ⟨0, 0, none⟩)), (6, .bool false)])) (h2 := [.cells 25 [.int .i64 p0, .int .i64 p1, .int .i64 p2, .int .i64 p3]]) (by kernel_rfl) ?_
    refine TI.run 8 [1, 3] [0] (a2 := (st 21 [(1, .pointer (some ⟨0, 0, none⟩)), (3, .bool true)])) (h2 := [.cells 25 [.int .i64 p0, .int .i64 p1, .int .i64 p2, .int .i64 p3]]) (by kernel_rfl) ?_
    refine TI.done (by kernel_rfl) ?_
    exact hK
theorem C20 (p0 : Int) (p1 : Int) (p2 : Int) (p3 : Int) (r : Int) (hF : F20 p0 p1 p2 p3 = some r) : PureSim Try.prog 20 [.agg ⟨[.int .i64 p0, .int .i64 p1, .int .i64 p2, .int .i64 p3]⟩] [] (V20 0 r) (N20 0 r) :=
  PureSim.of_Fin Try.func20 (c := c20) (by kernel_rfl) (by kernel_rfl) 0 rfl [0] [] (by kernel_rfl) (B20 p0 p1 p2 p3 r hF)

-- (agonic/magnet.Vector).dot
noncomputable def c72 : Code := Try.f72.code
def F72 (p0 : Int) (p1 : Int) (p2 : Int) (p3 : Int) : Option Int :=
  some (w64 ((w64 (p0 * p2)) + (w64 (p1 * p3))))
def V72 (b : Nat) (r : Int) : Value := .int .i64 r
def N72 (b : Nat) (r : Int) : List Blk := []
theorem B72 (p0 : Int) (p1 : Int) (p2 : Int) (p3 : Int) (r : Int) (hF : F72 p0 p1 p2 p3 = some r) : TS Try.prog 0 0 c72 (st 16 [(0, .agg ⟨[.int .i64 p0, .int .i64 p1]⟩), (1, .agg ⟨[.int .i64 p2, .int .i64 p3]⟩)]) [] (NX Try.prog 0 0 [] (FinP Try.prog Try.f72 0 (V72 0 r) (N72 0 r))) := by
  unfold F72 at hF
  refine TS.seq' (x := c72.s1) (y := c72.s2) (by kernel_rfl) ?_
  refine TS.region' (id := 0) (b := false) (ops := c72.s1.rops) (by kernel_rfl) rfl ?_
  refine TI.run 3 [2, 3] [0, 1] (a2 := (st 16 [(2, .pointer (some ⟨0, 0, none⟩)), (3, .pointer (some ⟨1, 0, none⟩))])) (h2 := [.cells 23 [.int .i64 p0, .int .i64 p1], .cells 23 [.int .i64 p2, .int .i64 p3]]) (by kernel_rfl) ?_
  refine TI.done (by kernel_rfl) ?_
  refine NX.sq ?_
  refine TS.seq' (x := c72.s2.s1) (y := c72.s2.s2) (by kernel_rfl) ?_
  refine TS.region' (id := 1) (b := false) (ops := c72.s2.s1.rops) (by kernel_rfl) rfl ?_
  refine TI.run 12 [4] [] (a2 := (st 16 [(4, .int .i64 (w64 ((w64 (p0 * p2)) + (w64 (p1 * p3)))))])) (h2 := [.dead, .dead]) (by kernel_rfl) ?_
  refine TI.done (by kernel_rfl) ?_
  refine NX.sq ?_
  refine TS.ret' (by kernel_rfl) ?_
  have hF := Option.some.inj hF
  subst hF
  exact ⟨.inr rfl, rfl, .int .i64 (w64 ((w64 (p0 * p2)) + (w64 (p1 * p3)))), by kernel_rfl, WkV.flat0 (by kernel_rfl) (Nat.le_of_ble_eq_true rfl)⟩
theorem C72 (p0 : Int) (p1 : Int) (p2 : Int) (p3 : Int) (r : Int) (hF : F72 p0 p1 p2 p3 = some r) : PureSim Try.prog 72 [.agg ⟨[.int .i64 p0, .int .i64 p1]⟩, .agg ⟨[.int .i64 p2, .int .i64 p3]⟩] [] (V72 0 r) (N72 0 r) :=
  PureSim.of_Fin Try.func72 (c := c72) (by kernel_rfl) (by kernel_rfl) 0 rfl [0, 1] [] (by kernel_rfl) (B72 p0 p1 p2 p3 r hF)

-- (agonic/magnet.Vector).square
noncomputable def c63 : Code := Try.f63.code
def F63 (p0 : Int) (p1 : Int) : Option Int :=
  F72 p0 p1 p0 p1 >>= fun r1 =>
  some r1
def V63 (b : Nat) (r : Int) : Value := .int .i64 r
def N63 (b : Nat) (r : Int) : List Blk := []
theorem B63 (p0 : Int) (p1 : Int) (r : Int) (hF : F63 p0 p1 = some r) : TS Try.prog 0 0 c63 (st 6 [(0, .agg ⟨[.int .i64 p0, .int .i64 p1]⟩)]) [] (NX Try.prog 0 0 [] (FinP Try.prog Try.f63 0 (V63 0 r) (N63 0 r))) := by
  unfold F63 at hF
  refine TS.seq' (x := c63.s1) (y := c63.s2) (by kernel_rfl) ?_
  refine TS.region' (id := 0) (b := false) (ops := c63.s1.rops) (by kernel_rfl) rfl ?_
  refine TI.run 2 [1] [0] (a2 := (st 6 [(1, .pointer (some ⟨0, 0, none⟩))])) (h2 := [.cells 23 [.int .i64 p0, .int .i64 p1]]) (by kernel_rfl) ?_
  refine TI.done (by kernel_rfl) ?_
  refine NX.sq ?_
  refine TS.seq' (x := c63.s2.s1) (y := c63.s2.s2) (by kernel_rfl) ?_
  have hX := of_do hF
  clear hF
  obtain ⟨r1, h2, hF⟩ := hX
  refine TS.region' (id := 1) (b := false) (ops := c63.s2.s1.rops) (by kernel_rfl) rfl ?_
  refine TI.run 2 [3, 4] [] (a2 := (st 6 [(3, .agg ⟨[.int .i64 p0, .int .i64 p1]⟩), (4, .agg ⟨[.int .i64 p0, .int .i64 p1]⟩)])) (h2 := [.dead]) (by kernel_rfl) ?_
  refine TI.callM (g := 72) (args := [.agg ⟨[.int .i64 p0, .int .i64 p1]⟩, .agg ⟨[.int .i64 p0, .int .i64 p1]⟩]) (v := .int .i64 r1) (new := []) (by kernel_rfl) (PureSim.any (C72 p0 p1 p0 p1 r1 h2) (flatL (by kernel_rfl)) (by kernel_rfl) [.dead]) [5] [] (a2 := (st 6 [(5, .int .i64 r1)])) (h2 := [.dead]) (by kernel_rfl) ?_
  refine TI.run 1 [2] [] (a2 := (st 6 [(2, .int .i64 r1)])) (h2 := [.dead]) (by kernel_rfl) ?_
  refine TI.done (by kernel_rfl) ?_
  refine NX.sq ?_
  refine TS.ret' (by kernel_rfl) ?_
  have hF := Option.some.inj hF
  subst hF
  exact ⟨.inr rfl, rfl, .int .i64 r1, by kernel_rfl, WkV.flat0 (by kernel_rfl) (Nat.le_of_ble_eq_true rfl)⟩
theorem C63 (p0 : Int) (p1 : Int) (r : Int) (hF : F63 p0 p1 = some r) : PureSim Try.prog 63 [.agg ⟨[.int .i64 p0, .int .i64 p1]⟩] [] (V63 0 r) (N63 0 r) :=
  PureSim.of_Fin Try.func63 (c := c63) (by kernel_rfl) (by kernel_rfl) 0 rfl [0] [] (by kernel_rfl) (B63 p0 p1 r hF)

-- agonic/magnet.floor
noncomputable def c69 : Code := Try.f69.code
def F69 (p0 : Int) (p1 : Int) : Option Int :=
  (
    if decide (p1 < 0) then
      some (w64 (0 - p0), w64 (0 - p1))
    else
      some (p0, p1)
  : Option (Int × Int)) >>= fun m6 =>
  if m6.2 = 0 then none else
  some (w64 (m6.1 - (Int.tmod (w64 ((Int.tmod m6.1 m6.2) + m6.2)) m6.2))) >>= fun o9 =>
  some (w64 (Int.tdiv o9 m6.2))
def V69 (b : Nat) (r : Int) : Value := .int .i64 r
def N69 (b : Nat) (r : Int) : List Blk := []
theorem B69 (p0 : Int) (p1 : Int) (r : Int) (hF : F69 p0 p1 = some r) : TS Try.prog 0 0 c69 (st 22 [(0, .int .i64 p0), (1, .int .i64 p1)]) [] (NX Try.prog 0 0 [] (FinP Try.prog Try.f69 0 (V69 0 r) (N69 0 r))) := by
  unfold F69 at hF
  refine TS.seq' (x := c69.s1) (y := c69.s2) (by kernel_rfl) ?_
  refine TS.region' (id := 0) (b := false) (ops := c69.s1.rops) (by kernel_rfl) rfl ?_
  refine TI.run 1 [0, 1] [] (a2 := (st 22 [(0, .int .i64 p0), (1, .int .i64 p1)])) (h2 := []) (by kernel_rfl) ?_
  refine TI.done (by kernel_rfl) ?_
  refine NX.sq ?_
  refine TS.seq' (x := c69.s2.s1) (y := c69.s2.s2) (by kernel_rfl) ?_
  refine TS.seq' (x := c69.s2.s1.s1) (y := c69.s2.s1.s2) (by kernel_rfl) ?_
  refine TS.region' (id := 1) (b := false) (ops := c69.s2.s1.s1.rops) (by kernel_rfl) rfl ?_
  refine TI.run 2 [0, 1, 6] [] (a2 := (st 22 [(0, .int .i64 p0), (1, .int .i64 p1), (6, .bool (decide (p1 < 0)))])) (h2 := []) (by kernel_rfl) ?_
  refine TI.done (by kernel_rfl) ?_
  refine NX.sq ?_
  have hX := of_do hF
  clear hF
  obtain ⟨m6, hm7, hF⟩ := hX
  have hK : NX Try.prog 0 0 [.sq c69.s2.s2] (FinP Try.prog Try.f69 0 (V69 0 r) (N69 0 r)) .normal (st 22 [(0, .int .i64 m6.1), (1, .int .i64 m6.2)]) [] := by
    refine NX.sq ?_
    refine TS.seq' (x := c69.s2.s2.s1) (y := c69.s2.s2.s2) (by kernel_rfl) ?_
    have hX := of_guardn hF
    clear hF
    obtain ⟨hg8, hF⟩ := hX
    have hX := of_do hF
    clear hF
    obtain ⟨o9, h10, hF⟩ := hX
    replace h10 := Option.some.inj h10
    refine TS.region' (id := 3) (b := false) (ops := c69.s2.s2.s1.rops) (by kernel_rfl) rfl ?_
    refine TI.run 3 [1, 11, 12, 13] [] (a2 := (st 22 [(1, .int .i64 m6.2), (11, .int .i64 m6.1), (12, .int .i64 m6.1), (13, .int .i64 m6.2)])) (h2 := []) (by kernel_rfl) ?_
    refine TI.op (q := { val := .int .i64 (Int.tmod m6.1 m6.2) }) (q_int (P := Try.prog) (op := .rem) (ty := 3) (ox := (.tmp 12)) (oy := (.tmp 13)) (k := .i64) (k' := .i64) (y := m6.1) (z := m6.2) (by kernel_rfl) (rem_ok hg8)) [1, 11, 14] [] (a2 := (st 22 [(1, .int .i64 m6.2), (11, .int .i64 m6.1), (14, .int .i64 (Int.tmod m6.1 m6.2))])) (h2 := []) (by kernel_rfl) ?_
    refine TI.run 3 [1, 11, 16, 17] [] (a2 := (st 22 [(1, .int .i64 m6.2), (11, .int .i64 m6.1), (16, .int .i64 (w64 ((Int.tmod m6.1 m6.2) + m6.2))), (17, .int .i64 m6.2)])) (h2 := []) (by kernel_rfl) ?_
    refine TI.op (q := { val := .int .i64 (Int.tmod (w64 ((Int.tmod m6.1 m6.2) + m6.2)) m6.2) }) (q_int (P := Try.prog) (op := .rem) (ty := 3) (ox := (.tmp 16)) (oy := (.tmp 17)) (k := .i64) (k' := .i64) (y := w64 ((Int.tmod m6.1 m6.2) + m6.2)) (z := m6.2) (by kernel_rfl) (rem_ok hg8)) [1, 11, 18] [] (a2 := (st 22 [(1, .int .i64 m6.2), (11, .int .i64 m6.1), (18, .int .i64 (Int.tmod (w64 ((Int.tmod m6.1 m6.2) + m6.2)) m6.2))])) (h2 := []) (by kernel_rfl) ?_
    refine TI.op (q := { val := .int .i64 o9 }) (q_convI (e := w64 (m6.1 - (Int.tmod (w64 ((Int.tmod m6.1 m6.2) + m6.2)) m6.2))) (y := o9) (by kernel_rfl) h10) [1, 19] [] (a2 := (st 22 [(1, .int .i64 m6.2), (19, .int .i64 o9)])) (h2 := []) (by kernel_rfl) ?_
    refine TI.run 1 [19, 20] [] (a2 := (st 22 [(19, .int .i64 o9), (20, .int .i64 m6.2)])) (h2 := []) (by kernel_rfl) ?_
    refine TI.op (q := { val := .int .i64 (w64 (Int.tdiv o9 m6.2)) }) (q_int (P := Try.prog) (op := .quo) (ty := 3) (ox := (.tmp 19)) (oy := (.tmp 20)) (k := .i64) (k' := .i64) (y := o9) (z := m6.2) (by kernel_rfl) (quo_ok hg8)) [21] [] (a2 := (st 22 [(21, .int .i64 (w64 (Int.tdiv o9 m6.2)))])) (h2 := []) (by kernel_rfl) ?_
    refine TI.run 1 [4] [] (a2 := (st 22 [(4, .int .i64 (w64 (Int.tdiv o9 m6.2)))])) (h2 := []) (by kernel_rfl) ?_
    refine TI.done (by kernel_rfl) ?_
    refine NX.sq ?_
    refine TS.ret' (by kernel_rfl) ?_
    have hF := Option.some.inj hF
    subst hF
    exact ⟨.inr rfl, rfl, .int .i64 (w64 (Int.tdiv o9 m6.2)), by kernel_rfl, WkV.flat0 (by kernel_rfl) (Nat.le_of_ble_eq_true rfl)⟩
  clear hF
  have hF := hm7
  clear hm7
  refine TS.start ?_
  refine TS.cond' (o := (.tmp 6)) (x := c69.s2.s1.s2.th) (y := c69.s2.s1.s2.el) (b := decide (p1 < 0)) (by kernel_rfl) (by kernel_rfl) (fun hc11 => ?_) (fun hc11 => ?_)
  · replace hF := of_pos hF hc11
    refine TS.region' (id := 2) (b := false) (ops := c69.s2.s1.s2.th.rops) (by kernel_rfl) rfl ?_
    refine TI.run 6 [0, 1] [] (a2 := (st 22 [(0, .int .i64 (w64 (0 - p0))), (1, .int .i64 (w64 (0 - p1)))])) (h2 := []) (by kernel_rfl) ?_
    refine TI.done (by kernel_rfl) ?_
    have hF := Option.some.inj hF
    subst hF
    exact TS.weak (Wk.anew (base := 0) (L := 0) (f := []) (by decide) (by decide) (Nat.le_of_ble_eq_true rfl) rfl (.nil _) (LRn.stx [0, 1] [.int .i64 (w64 (0 - p0)), .int .i64 (w64 (0 - p1))] [.int .i64 (w64 (0 - p0)), .int .i64 (w64 (0 - p1))] (.cons (.flat (by kernel_rfl)) (.cons (.flat (by kernel_rfl)) .nil)) (by kernel_rfl) (by kernel_rfl) rfl) rfl rfl) hK
  · replace hF := of_neg hF hc11
    refine TS.skip' (by kernel_rfl) ?_
    have hF := Option.some.inj hF
    subst hF
    exact TS.weak (Wk.anew (base := 0) (L := 0) (f := []) (by decide) (by decide) (Nat.le_of_ble_eq_true rfl) rfl (.nil _) (LRn.stx [0, 1] [.int .i64 p0, .int .i64 p1] [.int .i64 p0, .int .i64 p1] (.cons (.flat (by kernel_rfl)) (.cons (.flat (by kernel_rfl)) .nil)) (by kernel_rfl) (by kernel_rfl) rfl) rfl rfl) hK
theorem C69 (p0 : Int) (p1 : Int) (r : Int) (hF : F69 p0 p1 = some r) : PureSim Try.prog 69 [.int .i64 p0, .int .i64 p1] [] (V69 0 r) (N69 0 r) :=
  PureSim.of_Fin Try.func69 (c := c69) (by kernel_rfl) (by kernel_rfl) 0 rfl [0, 1] [] (by kernel_rfl) (B69 p0 p1 r hF)

-- (agonic/magnet.Vector).plus
noncomputable def c53 : Code := Try.f53.code
def F53 (p0 : Int) (p1 : Int) (p2 : Int) (p3 : Int) (p4 : Int) : Option (Int × Int) :=
  some (w64 (p0 + (w64 (p2 * p3))), w64 (p1 + (w64 (p2 * p4))))
def V53 (b : Nat) (r : (Int × Int)) : Value := .agg ⟨[.int .i64 r.1, .int .i64 r.2]⟩
def N53 (b : Nat) (r : (Int × Int)) : List Blk := []
theorem B53 (p0 : Int) (p1 : Int) (p2 : Int) (p3 : Int) (p4 : Int) (r : (Int × Int)) (hF : F53 p0 p1 p2 p3 p4 = some r) : TS Try.prog 0 0 c53 (st 22 [(0, .agg ⟨[.int .i64 p0, .int .i64 p1]⟩), (1, .int .i64 p2), (2, .agg ⟨[.int .i64 p3, .int .i64 p4]⟩)]) [] (NX Try.prog 0 0 [] (FinP Try.prog Try.f53 0 (V53 0 r) (N53 0 r))) := by
  unfold F53 at hF
  refine TS.seq' (x := c53.s1) (y := c53.s2) (by kernel_rfl) ?_
  refine TS.region' (id := 0) (b := false) (ops := c53.s1.rops) (by kernel_rfl) rfl ?_
  refine TI.run 3 [1, 3, 5, 6] [0, 1, 2] (a2 := (st 22 [(1, .int .i64 p2), (3, .pointer (some ⟨0, 0, none⟩)), (5, .pointer (some ⟨1, 0, none⟩)), (6, .pointer (some ⟨2, 0, none⟩))])) (h2 := [.cells 23 [.int .i64 p0, .int .i64 p1], .cells 23 [.int .i64 p3, .int .i64 p4], .cells 23 [.int .i64 0, .int .i64 0]]) (by kernel_rfl) ?_
  refine TI.done (by kernel_rfl) ?_
  refine NX.sq ?_
  refine TS.seq' (x := c53.s2.s1) (y := c53.s2.s2) (by kernel_rfl) ?_
  refine TS.region' (id := 1) (b := false) (ops := c53.s2.s1.rops) (by kernel_rfl) rfl ?_
  refine TI.run 16 [6] [2] (a2 := (st 22 [(6, .pointer (some ⟨2, 0, none⟩))])) (h2 := [.dead, .dead, .cells 23 [.int .i64 (w64 (p0 + (w64 (p2 * p3)))), .int .i64 (w64 (p1 + (w64 (p2 * p4))))]]) (by kernel_rfl) ?_
  refine TI.done (by kernel_rfl) ?_
  refine NX.sq ?_
  refine TS.ret' (by kernel_rfl) ?_
  have hF := Option.some.inj hF
  subst hF
  exact ⟨.inr rfl, rfl, .agg ⟨[.int .i64 (w64 (p0 + (w64 (p2 * p3)))), .int .i64 (w64 (p1 + (w64 (p2 * p4))))]⟩, by kernel_rfl, WkV.flat0 (by kernel_rfl) (Nat.le_of_ble_eq_true rfl)⟩
theorem C53 (p0 : Int) (p1 : Int) (p2 : Int) (p3 : Int) (p4 : Int) (r : (Int × Int)) (hF : F53 p0 p1 p2 p3 p4 = some r) : PureSim Try.prog 53 [.agg ⟨[.int .i64 p0, .int .i64 p1]⟩, .int .i64 p2, .agg ⟨[.int .i64 p3, .int .i64 p4]⟩] [] (V53 0 r) (N53 0 r) :=
  PureSim.of_Fin Try.func53 (c := c53) (by kernel_rfl) (by kernel_rfl) 0 rfl [0, 1, 2] [] (by kernel_rfl) (B53 p0 p1 p2 p3 p4 r hF)

-- (agonic/magnet.Choice).plus
noncomputable def c78 : Code := Try.f78.code
def F78 (p0 : Int) (p1 : Int) (p2 : Int) (p3 : Int) (p4 : Int) : Option (Int × Int) :=
  some (w64 (p0 + (w64 (p2 * p3))), w64 (p1 + (w64 (p2 * p4))))
def V78 (b : Nat) (r : (Int × Int)) : Value := .agg ⟨[.int .i64 r.1, .int .i64 r.2]⟩
def N78 (b : Nat) (r : (Int × Int)) : List Blk := []
theorem B78 (p0 : Int) (p1 : Int) (p2 : Int) (p3 : Int) (p4 : Int) (r : (Int × Int)) (hF : F78 p0 p1 p2 p3 p4 = some r) : TS Try.prog 0 0 c78 (st 22 [(0, .agg ⟨[.int .i64 p0, .int .i64 p1]⟩), (1, .int .i64 p2), (2, .agg ⟨[.int .i64 p3, .int .i64 p4]⟩)]) [] (NX Try.prog 0 0 [] (FinP Try.prog Try.f78 0 (V78 0 r) (N78 0 r))) := by
  unfold F78 at hF
  refine TS.seq' (x := c78.s1) (y := c78.s2) (by kernel_rfl) ?_
  refine TS.region' (id := 0) (b := false) (ops := c78.s1.rops) (by kernel_rfl) rfl ?_
  refine TI.run 3 [1, 3, 5, 6] [0, 1, 2] (a2 := (st 22 [(1, .int .i64 p2), (3, .pointer (some ⟨0, 0, none⟩)), (5, .pointer (some ⟨1, 0, none⟩)), (6, .pointer (some ⟨2, 0, none⟩))])) (h2 := [.cells 27 [.int .i64 p0, .int .i64 p1], .cells 27 [.int .i64 p3, .int .i64 p4], .cells 27 [.int .i64 0, .int .i64 0]]) (by kernel_rfl) ?_
  refine TI.done (by kernel_rfl) ?_
  refine NX.sq ?_
  refine TS.seq' (x := c78.s2.s1) (y := c78.s2.s2) (by kernel_rfl) ?_
  refine TS.region' (id := 1) (b := false) (ops := c78.s2.s1.rops) (by kernel_rfl) rfl ?_
  refine TI.run 16 [6] [2] (a2 := (st 22 [(6, .pointer (some ⟨2, 0, none⟩))])) (h2 := [.dead, .dead, .cells 27 [.int .i64 (w64 (p0 + (w64 (p2 * p3)))), .int .i64 (w64 (p1 + (w64 (p2 * p4))))]]) (by kernel_rfl) ?_
  refine TI.done (by kernel_rfl) ?_
  refine NX.sq ?_
  refine TS.ret' (by kernel_rfl) ?_
  have hF := Option.some.inj hF
  subst hF
  exact ⟨.inr rfl, rfl, .agg ⟨[.int .i64 (w64 (p0 + (w64 (p2 * p3)))), .int .i64 (w64 (p1 + (w64 (p2 * p4))))]⟩, by kernel_rfl, WkV.flat0 (by kernel_rfl) (Nat.le_of_ble_eq_true rfl)⟩
theorem C78 (p0 : Int) (p1 : Int) (p2 : Int) (p3 : Int) (p4 : Int) (r : (Int × Int)) (hF : F78 p0 p1 p2 p3 p4 = some r) : PureSim Try.prog 78 [.agg ⟨[.int .i64 p0, .int .i64 p1]⟩, .int .i64 p2, .agg ⟨[.int .i64 p3, .int .i64 p4]⟩] [] (V78 0 r) (N78 0 r) :=
  PureSim.of_Fin Try.func78 (c := c78) (by kernel_rfl) (by kernel_rfl) 0 rfl [0, 1, 2] [] (by kernel_rfl) (B78 p0 p1 p2 p3 p4 r hF)

-- (agonic/magnet.Kit).reduce
noncomputable def c61 : Code := Try.f61.code
def F61l0  (z68 : (Int × Int × Int × Int × Int × Int × Int × Int)) : Option (Int × Int × Int × Int × Int × Int × Int × Int) :=
    F72 z68.1 z68.2.1 z68.2.2.1 z68.2.2.2.1 >>= fun r51 =>
    F63 z68.1 z68.2.1 >>= fun r53 =>
    F63 z68.1 z68.2.1 >>= fun r55 =>
    F69 (w64 ((w64 (2 * r51)) + r53)) (w64 (2 * r55)) >>= fun r57 =>
    F53 z68.2.2.1 z68.2.2.2.1 (w64 (0 - r57)) z68.1 z68.2.1 >>= fun r59 =>
    F78 z68.2.2.2.2.2.2.1 z68.2.2.2.2.2.2.2 (w64 (0 - r57)) z68.2.2.2.2.1 z68.2.2.2.2.2.1 >>= fun r61 =>
    F63 z68.1 z68.2.1 >>= fun r63 =>
    F63 r59.1 r59.2 >>= fun r65 =>
    if decide (r63 ≤ r65) then
      some (z68.1, z68.2.1, r59.1, r59.2, z68.2.2.2.2.1, z68.2.2.2.2.2.1, r61.1, r61.2)
    else
      F61l0  (r59.1, r59.2, z68.1, z68.2.1, r61.1, r61.2, z68.2.2.2.2.1, z68.2.2.2.2.2.1)
  partial_fixpoint
def F61 (p0 : Int) (p1 : Int) (p2 : Int) (p3 : Int) : Option (((Int × Int) × (Int × Int)) × (Int × Int) × (Int × Int)) :=
  F61l0  (p0, p1, p2, p3, 1, 0, 0, 1) >>= fun r69 =>
  some (((r69.1, r69.2.1), (r69.2.2.1, r69.2.2.2.1)), (r69.2.2.2.2.1, r69.2.2.2.2.2.1), (r69.2.2.2.2.2.2.1, r69.2.2.2.2.2.2.2))
def V61 (b : Nat) (r : (((Int × Int) × (Int × Int)) × (Int × Int) × (Int × Int))) : Value := .agg ⟨[.int .i64 r.1.1.1, .int .i64 r.1.1.2, .int .i64 r.1.2.1, .int .i64 r.1.2.2, .int .i64 r.2.1.1, .int .i64 r.2.1.2, .int .i64 r.2.2.1, .int .i64 r.2.2.2]⟩
def N61 (b : Nat) (r : (((Int × Int) × (Int × Int)) × (Int × Int) × (Int × Int))) : List Blk := []
def P61l0  (r : (Int × Int × Int × Int × Int × Int × Int × Int)) : Post := fun e a h => e = .ret ∧ Wk Try.prog 0 0 a h (st 73 [(2, .pointer (some ⟨0, 0, none⟩))]) [.cells 108 [.int .i64 r.1, .int .i64 r.2.1, .int .i64 r.2.2.1, .int .i64 r.2.2.2.1, .int .i64 r.2.2.2.2.1, .int .i64 r.2.2.2.2.2.1, .int .i64 r.2.2.2.2.2.2.1, .int .i64 r.2.2.2.2.2.2.2]]
theorem L61l0  (v18 : Int) (v19 : Int) (v20 : Int) (v21 : Int) (v22 : Int) (v23 : Int) (v24 : Int) (v25 : Int) (r : (Int × Int × Int × Int × Int × Int × Int × Int)) (hF : F61l0  (v18, v19, v20, v21, v22, v23, v24, v25) = some r) : TL Try.prog 0 0 c61.s2.s2.bd.bd (st 73 [(2, .pointer (some ⟨0, 0, none⟩)), (3, .pointer (some ⟨1, 0, none⟩))]) [.cells 108 [.int .i64 0, .int .i64 0, .int .i64 0, .int .i64 0, .int .i64 0, .int .i64 0, .int .i64 0, .int .i64 0], .cells 108 [.int .i64 v18, .int .i64 v19, .int .i64 v20, .int .i64 v21, .int .i64 v22, .int .i64 v23, .int .i64 v24, .int .i64 v25]] (P61l0  r) := by
  refine F61l0.partial_correctness  (motive := fun z68 r => TL Try.prog 0 0 c61.s2.s2.bd.bd (st 73 [(2, .pointer (some ⟨0, 0, none⟩)), (3, .pointer (some ⟨1, 0, none⟩))]) [.cells 108 [.int .i64 0, .int .i64 0, .int .i64 0, .int .i64 0, .int .i64 0, .int .i64 0, .int .i64 0, .int .i64 0], .cells 108 [.int .i64 z68.1, .int .i64 z68.2.1, .int .i64 z68.2.2.1, .int .i64 z68.2.2.2.1, .int .i64 z68.2.2.2.2.1, .int .i64 z68.2.2.2.2.2.1, .int .i64 z68.2.2.2.2.2.2.1, .int .i64 z68.2.2.2.2.2.2.2]] (P61l0  r)) ?_ (v18, v19, v20, v21, v22, v23, v24, v25) r hF
  clear hF r v18 v19 v20 v21 v22 v23 v24 v25
  intro again ih z68 r hF
  refine TL.round ?_
  refine TS.block' (id := 1) (x := c61.s2.s2.bd.bd.bd) (by kernel_rfl) ?_
  refine TS.seq' (x := c61.s2.s2.bd.bd.bd.s1) (y := c61.s2.s2.bd.bd.bd.s2) (by kernel_rfl) ?_
  have hX := of_do hF
  clear hF
  obtain ⟨r51, h52, hF⟩ := hX
  have hX := of_do hF
  clear hF
  obtain ⟨r53, h54, hF⟩ := hX
  have hX := of_do hF
  clear hF
  obtain ⟨r55, h56, hF⟩ := hX
  have hX := of_do hF
  clear hF
  obtain ⟨r57, h58, hF⟩ := hX
  have hT : ∀ e ∈ ([⟨72, [.agg ⟨[.int .i64 z68.1, .int .i64 z68.2.1]⟩, .agg ⟨[.int .i64 z68.2.2.1, .int .i64 z68.2.2.2.1]⟩], [.cells 108 [.int .i64 0, .int .i64 0, .int .i64 0, .int .i64 0, .int .i64 0, .int .i64 0, .int .i64 0, .int .i64 0], .cells 108 [.int .i64 z68.1, .int .i64 z68.2.1, .int .i64 z68.2.2.1, .int .i64 z68.2.2.2.1, .int .i64 z68.2.2.2.2.1, .int .i64 z68.2.2.2.2.2.1, .int .i64 z68.2.2.2.2.2.2.1, .int .i64 z68.2.2.2.2.2.2.2]], .int .i64 r51, []⟩, ⟨63, [.agg ⟨[.int .i64 z68.1, .int .i64 z68.2.1]⟩], [.cells 108 [.int .i64 0, .int .i64 0, .int .i64 0, .int .i64 0, .int .i64 0, .int .i64 0, .int .i64 0, .int .i64 0], .cells 108 [.int .i64 z68.1, .int .i64 z68.2.1, .int .i64 z68.2.2.1, .int .i64 z68.2.2.2.1, .int .i64 z68.2.2.2.2.1, .int .i64 z68.2.2.2.2.2.1, .int .i64 z68.2.2.2.2.2.2.1, .int .i64 z68.2.2.2.2.2.2.2]], .int .i64 r53, []⟩, ⟨63, [.agg ⟨[.int .i64 z68.1, .int .i64 z68.2.1]⟩], [.cells 108 [.int .i64 0, .int .i64 0, .int .i64 0, .int .i64 0, .int .i64 0, .int .i64 0, .int .i64 0, .int .i64 0], .cells 108 [.int .i64 z68.1, .int .i64 z68.2.1, .int .i64 z68.2.2.1, .int .i64 z68.2.2.2.1, .int .i64 z68.2.2.2.2.1, .int .i64 z68.2.2.2.2.2.1, .int .i64 z68.2.2.2.2.2.2.1, .int .i64 z68.2.2.2.2.2.2.2]], .int .i64 r55, []⟩, ⟨69, [.int .i64 (w64 ((w64 (2 * r51)) + r53)), .int .i64 (w64 (2 * r55))], [.cells 108 [.int .i64 0, .int .i64 0, .int .i64 0, .int .i64 0, .int .i64 0, .int .i64 0, .int .i64 0, .int .i64 0], .cells 108 [.int .i64 z68.1, .int .i64 z68.2.1, .int .i64 z68.2.2.1, .int .i64 z68.2.2.2.1, .int .i64 z68.2.2.2.2.1, .int .i64 z68.2.2.2.2.2.1, .int .i64 z68.2.2.2.2.2.2.1, .int .i64 z68.2.2.2.2.2.2.2]], .int .i64 r57, []⟩] : List Entry), PureSim Try.prog e.g e.args e.h e.v e.new := by
    intro e he
    simp only [List.mem_cons, List.not_mem_nil, or_false] at he
    rcases he with rfl | rfl | rfl | rfl
    · exact (PureSim.any (C72 z68.1 z68.2.1 z68.2.2.1 z68.2.2.2.1 r51 h52) (flatL (by kernel_rfl)) (by kernel_rfl) [.cells 108 [.int .i64 0, .int .i64 0, .int .i64 0, .int .i64 0, .int .i64 0, .int .i64 0, .int .i64 0, .int .i64 0], .cells 108 [.int .i64 z68.1, .int .i64 z68.2.1, .int .i64 z68.2.2.1, .int .i64 z68.2.2.2.1, .int .i64 z68.2.2.2.2.1, .int .i64 z68.2.2.2.2.2.1, .int .i64 z68.2.2.2.2.2.2.1, .int .i64 z68.2.2.2.2.2.2.2]])
    · exact (PureSim.any (C63 z68.1 z68.2.1 r53 h54) (flatL (by kernel_rfl)) (by kernel_rfl) [.cells 108 [.int .i64 0, .int .i64 0, .int .i64 0, .int .i64 0, .int .i64 0, .int .i64 0, .int .i64 0, .int .i64 0], .cells 108 [.int .i64 z68.1, .int .i64 z68.2.1, .int .i64 z68.2.2.1, .int .i64 z68.2.2.2.1, .int .i64 z68.2.2.2.2.1, .int .i64 z68.2.2.2.2.2.1, .int .i64 z68.2.2.2.2.2.2.1, .int .i64 z68.2.2.2.2.2.2.2]])
    · exact (PureSim.any (C63 z68.1 z68.2.1 r55 h56) (flatL (by kernel_rfl)) (by kernel_rfl) [.cells 108 [.int .i64 0, .int .i64 0, .int .i64 0, .int .i64 0, .int .i64 0, .int .i64 0, .int .i64 0, .int .i64 0], .cells 108 [.int .i64 z68.1, .int .i64 z68.2.1, .int .i64 z68.2.2.1, .int .i64 z68.2.2.2.1, .int .i64 z68.2.2.2.2.1, .int .i64 z68.2.2.2.2.2.1, .int .i64 z68.2.2.2.2.2.2.1, .int .i64 z68.2.2.2.2.2.2.2]])
    · exact (PureSim.any (C69 (w64 ((w64 (2 * r51)) + r53)) (w64 (2 * r55)) r57 h58) (flatL (by kernel_rfl)) (by kernel_rfl) [.cells 108 [.int .i64 0, .int .i64 0, .int .i64 0, .int .i64 0, .int .i64 0, .int .i64 0, .int .i64 0, .int .i64 0], .cells 108 [.int .i64 z68.1, .int .i64 z68.2.1, .int .i64 z68.2.2.1, .int .i64 z68.2.2.2.1, .int .i64 z68.2.2.2.2.1, .int .i64 z68.2.2.2.2.2.1, .int .i64 z68.2.2.2.2.2.2.1, .int .i64 z68.2.2.2.2.2.2.2]])
  refine TS.draw' (id := 2) (b := true) (ops := c61.s2.s2.bd.bd.bd.s1.rops) (fin := ({ act := (st 73 [(2, .pointer (some ⟨0, 0, none⟩)), (3, .pointer (some ⟨1, 0, none⟩)), (9, .pointer (some ⟨1, 0, none⟩)), (10, .pointer (some ⟨1, 0, none⟩)), (11, .agg ⟨[.int .i64 z68.1, .int .i64 z68.2.1]⟩), (12, .pointer (some ⟨1, 0, none⟩)), (13, .pointer (some ⟨1, 2, none⟩)), (14, .agg ⟨[.int .i64 z68.2.2.1, .int .i64 z68.2.2.2.1]⟩), (15, .int .i64 r51), (16, .int .i64 (w64 (2 * r51))), (17, .pointer (some ⟨1, 0, none⟩)), (18, .pointer (some ⟨1, 0, none⟩)), (19, .agg ⟨[.int .i64 z68.1, .int .i64 z68.2.1]⟩), (20, .int .i64 r53), (21, .int .i64 (w64 ((w64 (2 * r51)) + r53))), (22, .pointer (some ⟨1, 0, none⟩)), (23, .pointer (some ⟨1, 0, none⟩)), (24, .agg ⟨[.int .i64 z68.1, .int .i64 z68.2.1]⟩), (25, .int .i64 r55), (26, .int .i64 (w64 (2 * r55)))]), heap := [.cells 108 [.int .i64 0, .int .i64 0, .int .i64 0, .int .i64 0, .int .i64 0, .int .i64 0, .int .i64 0, .int .i64 0], .cells 108 [.int .i64 z68.1, .int .i64 z68.2.1, .int .i64 z68.2.2.1, .int .i64 z68.2.2.2.1, .int .i64 z68.2.2.2.2.1, .int .i64 z68.2.2.2.2.2.1, .int .i64 z68.2.2.2.2.2.2.1, .int .i64 z68.2.2.2.2.2.2.2]], own := [], upds := [] } : QSt)) (fin2 := ({ act := (st 73 [(2, .pointer (some ⟨0, 0, none⟩)), (3, .pointer (some ⟨1, 0, none⟩)), (9, .pointer (some ⟨1, 0, none⟩)), (10, .pointer (some ⟨1, 0, none⟩)), (11, .agg ⟨[.int .i64 z68.1, .int .i64 z68.2.1]⟩), (12, .pointer (some ⟨1, 0, none⟩)), (13, .pointer (some ⟨1, 2, none⟩)), (14, .agg ⟨[.int .i64 z68.2.2.1, .int .i64 z68.2.2.2.1]⟩), (15, .int .i64 r51), (16, .int .i64 (w64 (2 * r51))), (17, .pointer (some ⟨1, 0, none⟩)), (18, .pointer (some ⟨1, 0, none⟩)), (19, .agg ⟨[.int .i64 z68.1, .int .i64 z68.2.1]⟩), (20, .int .i64 r53), (21, .int .i64 (w64 ((w64 (2 * r51)) + r53))), (22, .pointer (some ⟨1, 0, none⟩)), (23, .pointer (some ⟨1, 0, none⟩)), (24, .agg ⟨[.int .i64 z68.1, .int .i64 z68.2.1]⟩), (25, .int .i64 r55), (26, .int .i64 (w64 (2 * r55)))]), heap := [.cells 108 [.int .i64 0, .int .i64 0, .int .i64 0, .int .i64 0, .int .i64 0, .int .i64 0, .int .i64 0, .int .i64 0], .cells 108 [.int .i64 z68.1, .int .i64 z68.2.1, .int .i64 z68.2.2.1, .int .i64 z68.2.2.2.1, .int .i64 z68.2.2.2.2.1, .int .i64 z68.2.2.2.2.2.1, .int .i64 z68.2.2.2.2.2.2.1, .int .i64 z68.2.2.2.2.2.2.2]], own := [], upds := [] } : QSt)) (a1 := (st 73 [(2, .pointer (some ⟨0, 0, none⟩)), (3, .pointer (some ⟨1, 0, none⟩)), (4, .int .i64 r57), (9, .pointer (some ⟨1, 0, none⟩)), (10, .pointer (some ⟨1, 0, none⟩)), (11, .agg ⟨[.int .i64 z68.1, .int .i64 z68.2.1]⟩), (12, .pointer (some ⟨1, 0, none⟩)), (13, .pointer (some ⟨1, 2, none⟩)), (14, .agg ⟨[.int .i64 z68.2.2.1, .int .i64 z68.2.2.2.1]⟩), (15, .int .i64 r51), (16, .int .i64 (w64 (2 * r51))), (17, .pointer (some ⟨1, 0, none⟩)), (18, .pointer (some ⟨1, 0, none⟩)), (19, .agg ⟨[.int .i64 z68.1, .int .i64 z68.2.1]⟩), (20, .int .i64 r53), (21, .int .i64 (w64 ((w64 (2 * r51)) + r53))), (22, .pointer (some ⟨1, 0, none⟩)), (23, .pointer (some ⟨1, 0, none⟩)), (24, .agg ⟨[.int .i64 z68.1, .int .i64 z68.2.1]⟩), (25, .int .i64 r55), (26, .int .i64 (w64 (2 * r55))), (27, .int .i64 r57)])) (h1 := [.cells 108 [.int .i64 0, .int .i64 0, .int .i64 0, .int .i64 0, .int .i64 0, .int .i64 0, .int .i64 0, .int .i64 0], .cells 108 [.int .i64 z68.1, .int .i64 z68.2.1, .int .i64 z68.2.2.1, .int .i64 z68.2.2.2.1, .int .i64 z68.2.2.2.2.1, .int .i64 z68.2.2.2.2.2.1, .int .i64 z68.2.2.2.2.2.2.1, .int .i64 z68.2.2.2.2.2.2.2]]) (a2 := (st 73 [(2, .pointer (some ⟨0, 0, none⟩)), (3, .pointer (some ⟨1, 0, none⟩)), (4, .int .i64 r57)])) (h2 := [.cells 108 [.int .i64 0, .int .i64 0, .int .i64 0, .int .i64 0, .int .i64 0, .int .i64 0, .int .i64 0, .int .i64 0], .cells 108 [.int .i64 z68.1, .int .i64 z68.2.1, .int .i64 z68.2.2.1, .int .i64 z68.2.2.2.1, .int .i64 z68.2.2.2.2.1, .int .i64 z68.2.2.2.2.2.1, .int .i64 z68.2.2.2.2.2.2.1, .int .i64 z68.2.2.2.2.2.2.2]]) [⟨72, [.agg ⟨[.int .i64 z68.1, .int .i64 z68.2.1]⟩, .agg ⟨[.int .i64 z68.2.2.1, .int .i64 z68.2.2.2.1]⟩], [.cells 108 [.int .i64 0, .int .i64 0, .int .i64 0, .int .i64 0, .int .i64 0, .int .i64 0, .int .i64 0, .int .i64 0], .cells 108 [.int .i64 z68.1, .int .i64 z68.2.1, .int .i64 z68.2.2.1, .int .i64 z68.2.2.2.1, .int .i64 z68.2.2.2.2.1, .int .i64 z68.2.2.2.2.2.1, .int .i64 z68.2.2.2.2.2.2.1, .int .i64 z68.2.2.2.2.2.2.2]], .int .i64 r51, []⟩, ⟨63, [.agg ⟨[.int .i64 z68.1, .int .i64 z68.2.1]⟩], [.cells 108 [.int .i64 0, .int .i64 0, .int .i64 0, .int .i64 0, .int .i64 0, .int .i64 0, .int .i64 0, .int .i64 0], .cells 108 [.int .i64 z68.1, .int .i64 z68.2.1, .int .i64 z68.2.2.1, .int .i64 z68.2.2.2.1, .int .i64 z68.2.2.2.2.1, .int .i64 z68.2.2.2.2.2.1, .int .i64 z68.2.2.2.2.2.2.1, .int .i64 z68.2.2.2.2.2.2.2]], .int .i64 r53, []⟩, ⟨63, [.agg ⟨[.int .i64 z68.1, .int .i64 z68.2.1]⟩], [.cells 108 [.int .i64 0, .int .i64 0, .int .i64 0, .int .i64 0, .int .i64 0, .int .i64 0, .int .i64 0, .int .i64 0], .cells 108 [.int .i64 z68.1, .int .i64 z68.2.1, .int .i64 z68.2.2.1, .int .i64 z68.2.2.2.1, .int .i64 z68.2.2.2.2.1, .int .i64 z68.2.2.2.2.2.1, .int .i64 z68.2.2.2.2.2.2.1, .int .i64 z68.2.2.2.2.2.2.2]], .int .i64 r55, []⟩, ⟨69, [.int .i64 (w64 ((w64 (2 * r51)) + r53)), .int .i64 (w64 (2 * r55))], [.cells 108 [.int .i64 0, .int .i64 0, .int .i64 0, .int .i64 0, .int .i64 0, .int .i64 0, .int .i64 0, .int .i64 0], .cells 108 [.int .i64 z68.1, .int .i64 z68.2.1, .int .i64 z68.2.2.1, .int .i64 z68.2.2.2.1, .int .i64 z68.2.2.2.2.1, .int .i64 z68.2.2.2.2.2.1, .int .i64 z68.2.2.2.2.2.2.1, .int .i64 z68.2.2.2.2.2.2.2]], .int .i64 r57, []⟩] hT mixed (by kernel_rfl) rfl 18 (by kernel_rfl) [] ?_ rfl (.inl ⟨rfl, rfl⟩) ?_ [2, 3, 4] [0, 1] (by kernel_rfl) ?_
  · refine QI.run (s1 := ({ act := (st 73 [(2, .pointer (some ⟨0, 0, none⟩)), (3, .pointer (some ⟨1, 0, none⟩)), (9, .pointer (some ⟨1, 0, none⟩)), (10, .pointer (some ⟨1, 0, none⟩)), (11, .agg ⟨[.int .i64 z68.1, .int .i64 z68.2.1]⟩), (12, .pointer (some ⟨1, 0, none⟩)), (13, .pointer (some ⟨1, 2, none⟩)), (14, .agg ⟨[.int .i64 z68.2.2.1, .int .i64 z68.2.2.2.1]⟩)]), heap := [.cells 108 [.int .i64 0, .int .i64 0, .int .i64 0, .int .i64 0, .int .i64 0, .int .i64 0, .int .i64 0, .int .i64 0], .cells 108 [.int .i64 z68.1, .int .i64 z68.2.1, .int .i64 z68.2.2.1, .int .i64 z68.2.2.2.1, .int .i64 z68.2.2.2.2.1, .int .i64 z68.2.2.2.2.2.1, .int .i64 z68.2.2.2.2.2.2.1, .int .i64 z68.2.2.2.2.2.2.2]], own := [], upds := [] } : QSt)) 6 (by kernel_rfl) (by kernel_rfl) ?_
    refine QI.op (q := { val := .int .i64 r51, new := [] }) (s1 := ({ act := (st 73 [(2, .pointer (some ⟨0, 0, none⟩)), (3, .pointer (some ⟨1, 0, none⟩)), (9, .pointer (some ⟨1, 0, none⟩)), (10, .pointer (some ⟨1, 0, none⟩)), (11, .agg ⟨[.int .i64 z68.1, .int .i64 z68.2.1]⟩), (12, .pointer (some ⟨1, 0, none⟩)), (13, .pointer (some ⟨1, 2, none⟩)), (14, .agg ⟨[.int .i64 z68.2.2.1, .int .i64 z68.2.2.2.1]⟩), (15, .int .i64 r51)]), heap := [.cells 108 [.int .i64 0, .int .i64 0, .int .i64 0, .int .i64 0, .int .i64 0, .int .i64 0, .int .i64 0, .int .i64 0], .cells 108 [.int .i64 z68.1, .int .i64 z68.2.1, .int .i64 z68.2.2.1, .int .i64 z68.2.2.2.1, .int .i64 z68.2.2.2.2.1, .int .i64 z68.2.2.2.2.2.1, .int .i64 z68.2.2.2.2.2.2.1, .int .i64 z68.2.2.2.2.2.2.2]], own := [], upds := [] } : QSt)) (by decide) (qOf_call (g := 72) (args := [.agg ⟨[.int .i64 z68.1, .int .i64 z68.2.1]⟩, .agg ⟨[.int .i64 z68.2.2.1, .int .i64 z68.2.2.2.1]⟩]) (by kernel_rfl) lookC_hit) (by kernel_rfl) ?_
    refine QI.run (s1 := ({ act := (st 73 [(2, .pointer (some ⟨0, 0, none⟩)), (3, .pointer (some ⟨1, 0, none⟩)), (9, .pointer (some ⟨1, 0, none⟩)), (10, .pointer (some ⟨1, 0, none⟩)), (11, .agg ⟨[.int .i64 z68.1, .int .i64 z68.2.1]⟩), (12, .pointer (some ⟨1, 0, none⟩)), (13, .pointer (some ⟨1, 2, none⟩)), (14, .agg ⟨[.int .i64 z68.2.2.1, .int .i64 z68.2.2.2.1]⟩), (15, .int .i64 r51), (16, .int .i64 (w64 (2 * r51))), (17, .pointer (some ⟨1, 0, none⟩)), (18, .pointer (some ⟨1, 0, none⟩)), (19, .agg ⟨[.int .i64 z68.1, .int .i64 z68.2.1]⟩)]), heap := [.cells 108 [.int .i64 0, .int .i64 0, .int .i64 0, .int .i64 0, .int .i64 0, .int .i64 0, .int .i64 0, .int .i64 0], .cells 108 [.int .i64 z68.1, .int .i64 z68.2.1, .int .i64 z68.2.2.1, .int .i64 z68.2.2.2.1, .int .i64 z68.2.2.2.2.1, .int .i64 z68.2.2.2.2.2.1, .int .i64 z68.2.2.2.2.2.2.1, .int .i64 z68.2.2.2.2.2.2.2]], own := [], upds := [] } : QSt)) 4 (by kernel_rfl) (by kernel_rfl) ?_
    refine QI.op (q := { val := .int .i64 r53, new := [] }) (s1 := ({ act := (st 73 [(2, .pointer (some ⟨0, 0, none⟩)), (3, .pointer (some ⟨1, 0, none⟩)), (9, .pointer (some ⟨1, 0, none⟩)), (10, .pointer (some ⟨1, 0, none⟩)), (11, .agg ⟨[.int .i64 z68.1, .int .i64 z68.2.1]⟩), (12, .pointer (some ⟨1, 0, none⟩)), (13, .pointer (some ⟨1, 2, none⟩)), (14, .agg ⟨[.int .i64 z68.2.2.1, .int .i64 z68.2.2.2.1]⟩), (15, .int .i64 r51), (16, .int .i64 (w64 (2 * r51))), (17, .pointer (some ⟨1, 0, none⟩)), (18, .pointer (some ⟨1, 0, none⟩)), (19, .agg ⟨[.int .i64 z68.1, .int .i64 z68.2.1]⟩), (20, .int .i64 r53)]), heap := [.cells 108 [.int .i64 0, .int .i64 0, .int .i64 0, .int .i64 0, .int .i64 0, .int .i64 0, .int .i64 0, .int .i64 0], .cells 108 [.int .i64 z68.1, .int .i64 z68.2.1, .int .i64 z68.2.2.1, .int .i64 z68.2.2.2.1, .int .i64 z68.2.2.2.2.1, .int .i64 z68.2.2.2.2.2.1, .int .i64 z68.2.2.2.2.2.2.1, .int .i64 z68.2.2.2.2.2.2.2]], own := [], upds := [] } : QSt)) (by decide) (qOf_call (g := 63) (args := [.agg ⟨[.int .i64 z68.1, .int .i64 z68.2.1]⟩]) (by kernel_rfl) (lookC_skip (fun hg => absurd (show (72 : Nat) = 63 from hg) (by decide)) lookC_hit)) (by kernel_rfl) ?_
    refine QI.run (s1 := ({ act := (st 73 [(2, .pointer (some ⟨0, 0, none⟩)), (3, .pointer (some ⟨1, 0, none⟩)), (9, .pointer (some ⟨1, 0, none⟩)), (10, .pointer (some ⟨1, 0, none⟩)), (11, .agg ⟨[.int .i64 z68.1, .int .i64 z68.2.1]⟩), (12, .pointer (some ⟨1, 0, none⟩)), (13, .pointer (some ⟨1, 2, none⟩)), (14, .agg ⟨[.int .i64 z68.2.2.1, .int .i64 z68.2.2.2.1]⟩), (15, .int .i64 r51), (16, .int .i64 (w64 (2 * r51))), (17, .pointer (some ⟨1, 0, none⟩)), (18, .pointer (some ⟨1, 0, none⟩)), (19, .agg ⟨[.int .i64 z68.1, .int .i64 z68.2.1]⟩), (20, .int .i64 r53), (21, .int .i64 (w64 ((w64 (2 * r51)) + r53))), (22, .pointer (some ⟨1, 0, none⟩)), (23, .pointer (some ⟨1, 0, none⟩)), (24, .agg ⟨[.int .i64 z68.1, .int .i64 z68.2.1]⟩)]), heap := [.cells 108 [.int .i64 0, .int .i64 0, .int .i64 0, .int .i64 0, .int .i64 0, .int .i64 0, .int .i64 0, .int .i64 0], .cells 108 [.int .i64 z68.1, .int .i64 z68.2.1, .int .i64 z68.2.2.1, .int .i64 z68.2.2.2.1, .int .i64 z68.2.2.2.2.1, .int .i64 z68.2.2.2.2.2.1, .int .i64 z68.2.2.2.2.2.2.1, .int .i64 z68.2.2.2.2.2.2.2]], own := [], upds := [] } : QSt)) 4 (by kernel_rfl) (by kernel_rfl) ?_
    refine QI.op (q := { val := .int .i64 r55, new := [] }) (s1 := ({ act := (st 73 [(2, .pointer (some ⟨0, 0, none⟩)), (3, .pointer (some ⟨1, 0, none⟩)), (9, .pointer (some ⟨1, 0, none⟩)), (10, .pointer (some ⟨1, 0, none⟩)), (11, .agg ⟨[.int .i64 z68.1, .int .i64 z68.2.1]⟩), (12, .pointer (some ⟨1, 0, none⟩)), (13, .pointer (some ⟨1, 2, none⟩)), (14, .agg ⟨[.int .i64 z68.2.2.1, .int .i64 z68.2.2.2.1]⟩), (15, .int .i64 r51), (16, .int .i64 (w64 (2 * r51))), (17, .pointer (some ⟨1, 0, none⟩)), (18, .pointer (some ⟨1, 0, none⟩)), (19, .agg ⟨[.int .i64 z68.1, .int .i64 z68.2.1]⟩), (20, .int .i64 r53), (21, .int .i64 (w64 ((w64 (2 * r51)) + r53))), (22, .pointer (some ⟨1, 0, none⟩)), (23, .pointer (some ⟨1, 0, none⟩)), (24, .agg ⟨[.int .i64 z68.1, .int .i64 z68.2.1]⟩), (25, .int .i64 r55)]), heap := [.cells 108 [.int .i64 0, .int .i64 0, .int .i64 0, .int .i64 0, .int .i64 0, .int .i64 0, .int .i64 0, .int .i64 0], .cells 108 [.int .i64 z68.1, .int .i64 z68.2.1, .int .i64 z68.2.2.1, .int .i64 z68.2.2.2.1, .int .i64 z68.2.2.2.2.1, .int .i64 z68.2.2.2.2.2.1, .int .i64 z68.2.2.2.2.2.2.1, .int .i64 z68.2.2.2.2.2.2.2]], own := [], upds := [] } : QSt)) (by decide) (qOf_call (g := 63) (args := [.agg ⟨[.int .i64 z68.1, .int .i64 z68.2.1]⟩]) (by kernel_rfl) (lookC_skip (fun hg => absurd (show (72 : Nat) = 63 from hg) (by decide)) (lookC_skip (by intro _ ha _; have hq := h54; have hi := h56; clear hF; first | (exfalso; simp at ha; done) | ((try simp at ha); have hr := Option.some.inj (hq.symm.trans (Eq.trans (by first | rfl | (congr 1 <;> first | rfl | omega | simp_all)) hi)); subst hr; rfl)) lookC_hit))) (by kernel_rfl) ?_
    refine QI.run (s1 := ({ act := (st 73 [(2, .pointer (some ⟨0, 0, none⟩)), (3, .pointer (some ⟨1, 0, none⟩)), (9, .pointer (some ⟨1, 0, none⟩)), (10, .pointer (some ⟨1, 0, none⟩)), (11, .agg ⟨[.int .i64 z68.1, .int .i64 z68.2.1]⟩), (12, .pointer (some ⟨1, 0, none⟩)), (13, .pointer (some ⟨1, 2, none⟩)), (14, .agg ⟨[.int .i64 z68.2.2.1, .int .i64 z68.2.2.2.1]⟩), (15, .int .i64 r51), (16, .int .i64 (w64 (2 * r51))), (17, .pointer (some ⟨1, 0, none⟩)), (18, .pointer (some ⟨1, 0, none⟩)), (19, .agg ⟨[.int .i64 z68.1, .int .i64 z68.2.1]⟩), (20, .int .i64 r53), (21, .int .i64 (w64 ((w64 (2 * r51)) + r53))), (22, .pointer (some ⟨1, 0, none⟩)), (23, .pointer (some ⟨1, 0, none⟩)), (24, .agg ⟨[.int .i64 z68.1, .int .i64 z68.2.1]⟩), (25, .int .i64 r55), (26, .int .i64 (w64 (2 * r55)))]), heap := [.cells 108 [.int .i64 0, .int .i64 0, .int .i64 0, .int .i64 0, .int .i64 0, .int .i64 0, .int .i64 0, .int .i64 0], .cells 108 [.int .i64 z68.1, .int .i64 z68.2.1, .int .i64 z68.2.2.1, .int .i64 z68.2.2.2.1, .int .i64 z68.2.2.2.2.1, .int .i64 z68.2.2.2.2.2.1, .int .i64 z68.2.2.2.2.2.2.1, .int .i64 z68.2.2.2.2.2.2.2]], own := [], upds := [] } : QSt)) 1 (by kernel_rfl) (by kernel_rfl) ?_
    exact QI.done (by kernel_rfl)
  · refine SI.op (q := { val := .int .i64 r57, new := [] }) (a2 := (st 73 [(2, .pointer (some ⟨0, 0, none⟩)), (3, .pointer (some ⟨1, 0, none⟩)), (9, .pointer (some ⟨1, 0, none⟩)), (10, .pointer (some ⟨1, 0, none⟩)), (11, .agg ⟨[.int .i64 z68.1, .int .i64 z68.2.1]⟩), (12, .pointer (some ⟨1, 0, none⟩)), (13, .pointer (some ⟨1, 2, none⟩)), (14, .agg ⟨[.int .i64 z68.2.2.1, .int .i64 z68.2.2.2.1]⟩), (15, .int .i64 r51), (16, .int .i64 (w64 (2 * r51))), (17, .pointer (some ⟨1, 0, none⟩)), (18, .pointer (some ⟨1, 0, none⟩)), (19, .agg ⟨[.int .i64 z68.1, .int .i64 z68.2.1]⟩), (20, .int .i64 r53), (21, .int .i64 (w64 ((w64 (2 * r51)) + r53))), (22, .pointer (some ⟨1, 0, none⟩)), (23, .pointer (some ⟨1, 0, none⟩)), (24, .agg ⟨[.int .i64 z68.1, .int .i64 z68.2.1]⟩), (25, .int .i64 r55), (26, .int .i64 (w64 (2 * r55))), (27, .int .i64 r57)])) (h2 := [.cells 108 [.int .i64 0, .int .i64 0, .int .i64 0, .int .i64 0, .int .i64 0, .int .i64 0, .int .i64 0, .int .i64 0], .cells 108 [.int .i64 z68.1, .int .i64 z68.2.1, .int .i64 z68.2.2.1, .int .i64 z68.2.2.2.1, .int .i64 z68.2.2.2.2.1, .int .i64 z68.2.2.2.2.2.1, .int .i64 z68.2.2.2.2.2.2.1, .int .i64 z68.2.2.2.2.2.2.2]]) (by kernel_rfl) (qOf_call (g := 69) (args := [.int .i64 (w64 ((w64 (2 * r51)) + r53)), .int .i64 (w64 (2 * r55))]) (by kernel_rfl) (lookC_skip (fun hg => absurd (show (72 : Nat) = 69 from hg) (by decide)) (lookC_skip (fun hg => absurd (show (63 : Nat) = 69 from hg) (by decide)) (lookC_skip (fun hg => absurd (show (63 : Nat) = 69 from hg) (by decide)) lookC_hit)))) (by kernel_rfl) (by kernel_rfl) ?_
    refine SI.run (a2 := (st 73 [(2, .pointer (some ⟨0, 0, none⟩)), (3, .pointer (some ⟨1, 0, none⟩)), (4, .int .i64 r57), (9, .pointer (some ⟨1, 0, none⟩)), (10, .pointer (some ⟨1, 0, none⟩)), (11, .agg ⟨[.int .i64 z68.1, .int .i64 z68.2.1]⟩), (12, .pointer (some ⟨1, 0, none⟩)), (13, .pointer (some ⟨1, 2, none⟩)), (14, .agg ⟨[.int .i64 z68.2.2.1, .int .i64 z68.2.2.2.1]⟩), (15, .int .i64 r51), (16, .int .i64 (w64 (2 * r51))), (17, .pointer (some ⟨1, 0, none⟩)), (18, .pointer (some ⟨1, 0, none⟩)), (19, .agg ⟨[.int .i64 z68.1, .int .i64 z68.2.1]⟩), (20, .int .i64 r53), (21, .int .i64 (w64 ((w64 (2 * r51)) + r53))), (22, .pointer (some ⟨1, 0, none⟩)), (23, .pointer (some ⟨1, 0, none⟩)), (24, .agg ⟨[.int .i64 z68.1, .int .i64 z68.2.1]⟩), (25, .int .i64 r55), (26, .int .i64 (w64 (2 * r55))), (27, .int .i64 r57)])) (h2 := [.cells 108 [.int .i64 0, .int .i64 0, .int .i64 0, .int .i64 0, .int .i64 0, .int .i64 0, .int .i64 0, .int .i64 0], .cells 108 [.int .i64 z68.1, .int .i64 z68.2.1, .int .i64 z68.2.2.1, .int .i64 z68.2.2.2.1, .int .i64 z68.2.2.2.2.1, .int .i64 z68.2.2.2.2.2.1, .int .i64 z68.2.2.2.2.2.2.1, .int .i64 z68.2.2.2.2.2.2.2]]) 1 (by kernel_rfl) ?_
    exact SI.done (by kernel_rfl)
  refine TS.seq' (x := c61.s2.s2.bd.bd.bd.s2.s1) (y := c61.s2.s2.bd.bd.bd.s2.s2) (by kernel_rfl) ?_
  have hX := of_do hF
  clear hF
  obtain ⟨r59, h60, hF⟩ := hX
  have hX := of_do hF
  clear hF
  obtain ⟨r61, h62, hF⟩ := hX
  have hT : ∀ e ∈ ([⟨53, [.agg ⟨[.int .i64 z68.2.2.1, .int .i64 z68.2.2.2.1]⟩, .int .i64 (w64 (0 - r57)), .agg ⟨[.int .i64 z68.1, .int .i64 z68.2.1]⟩], [.cells 108 [.int .i64 0, .int .i64 0, .int .i64 0, .int .i64 0, .int .i64 0, .int .i64 0, .int .i64 0, .int .i64 0], .cells 108 [.int .i64 z68.1, .int .i64 z68.2.1, .int .i64 z68.2.2.1, .int .i64 z68.2.2.2.1, .int .i64 z68.2.2.2.2.1, .int .i64 z68.2.2.2.2.2.1, .int .i64 z68.2.2.2.2.2.2.1, .int .i64 z68.2.2.2.2.2.2.2]], .agg ⟨[.int .i64 r59.1, .int .i64 r59.2]⟩, []⟩, ⟨78, [.agg ⟨[.int .i64 z68.2.2.2.2.2.2.1, .int .i64 z68.2.2.2.2.2.2.2]⟩, .int .i64 (w64 (0 - r57)), .agg ⟨[.int .i64 z68.2.2.2.2.1, .int .i64 z68.2.2.2.2.2.1]⟩], [.cells 108 [.int .i64 0, .int .i64 0, .int .i64 0, .int .i64 0, .int .i64 0, .int .i64 0, .int .i64 0, .int .i64 0], .cells 108 [.int .i64 z68.1, .int .i64 z68.2.1, .int .i64 z68.2.2.1, .int .i64 z68.2.2.2.1, .int .i64 z68.2.2.2.2.1, .int .i64 z68.2.2.2.2.2.1, .int .i64 z68.2.2.2.2.2.2.1, .int .i64 z68.2.2.2.2.2.2.2]], .agg ⟨[.int .i64 r61.1, .int .i64 r61.2]⟩, []⟩] : List Entry), PureSim Try.prog e.g e.args e.h e.v e.new := by
    intro e he
    simp only [List.mem_cons, List.not_mem_nil, or_false] at he
    rcases he with rfl | rfl
    · exact (PureSim.any (C53 z68.2.2.1 z68.2.2.2.1 (w64 (0 - r57)) z68.1 z68.2.1 r59 h60) (flatL (by kernel_rfl)) (by kernel_rfl) [.cells 108 [.int .i64 0, .int .i64 0, .int .i64 0, .int .i64 0, .int .i64 0, .int .i64 0, .int .i64 0, .int .i64 0], .cells 108 [.int .i64 z68.1, .int .i64 z68.2.1, .int .i64 z68.2.2.1, .int .i64 z68.2.2.2.1, .int .i64 z68.2.2.2.2.1, .int .i64 z68.2.2.2.2.2.1, .int .i64 z68.2.2.2.2.2.2.1, .int .i64 z68.2.2.2.2.2.2.2]])
    · exact (PureSim.any (C78 z68.2.2.2.2.2.2.1 z68.2.2.2.2.2.2.2 (w64 (0 - r57)) z68.2.2.2.2.1 z68.2.2.2.2.2.1 r61 h62) (flatL (by kernel_rfl)) (by kernel_rfl) [.cells 108 [.int .i64 0, .int .i64 0, .int .i64 0, .int .i64 0, .int .i64 0, .int .i64 0, .int .i64 0, .int .i64 0], .cells 108 [.int .i64 z68.1, .int .i64 z68.2.1, .int .i64 z68.2.2.1, .int .i64 z68.2.2.2.1, .int .i64 z68.2.2.2.2.1, .int .i64 z68.2.2.2.2.2.1, .int .i64 z68.2.2.2.2.2.2.1, .int .i64 z68.2.2.2.2.2.2.2]])
  refine TS.draw' (id := 3) (b := true) (ops := c61.s2.s2.bd.bd.bd.s2.s1.rops) (fin := ({ act := (st 73 [(2, .pointer (some ⟨0, 0, none⟩)), (3, .pointer (some ⟨1, 0, none⟩)), (4, .int .i64 r57), (28, .pointer (some ⟨1, 0, none⟩)), (29, .pointer (some ⟨1, 2, none⟩)), (30, .agg ⟨[.int .i64 z68.2.2.1, .int .i64 z68.2.2.2.1]⟩), (31, .int .i64 r57), (32, .int .i64 (w64 (0 - r57))), (33, .pointer (some ⟨1, 0, none⟩)), (34, .pointer (some ⟨1, 0, none⟩)), (35, .agg ⟨[.int .i64 z68.1, .int .i64 z68.2.1]⟩), (36, .agg ⟨[.int .i64 r59.1, .int .i64 r59.2]⟩), (37, .pointer (some ⟨1, 6, none⟩)), (38, .agg ⟨[.int .i64 z68.2.2.2.2.2.2.1, .int .i64 z68.2.2.2.2.2.2.2]⟩), (39, .int .i64 r57), (40, .int .i64 (w64 (0 - r57))), (41, .pointer (some ⟨1, 4, none⟩)), (42, .agg ⟨[.int .i64 z68.2.2.2.2.1, .int .i64 z68.2.2.2.2.2.1]⟩), (43, .agg ⟨[.int .i64 r61.1, .int .i64 r61.2]⟩), (44, .pointer (some ⟨1, 0, none⟩)), (45, .pointer (some ⟨1, 2, none⟩))]), heap := [.cells 108 [.int .i64 0, .int .i64 0, .int .i64 0, .int .i64 0, .int .i64 0, .int .i64 0, .int .i64 0, .int .i64 0], .cells 108 [.int .i64 z68.1, .int .i64 z68.2.1, .int .i64 z68.2.2.1, .int .i64 z68.2.2.2.1, .int .i64 z68.2.2.2.2.1, .int .i64 z68.2.2.2.2.2.1, .int .i64 z68.2.2.2.2.2.2.1, .int .i64 z68.2.2.2.2.2.2.2]], own := [], upds := [] } : QSt)) (fin2 := ({ act := (st 73 [(2, .pointer (some ⟨0, 0, none⟩)), (3, .pointer (some ⟨1, 0, none⟩)), (4, .int .i64 r57), (28, .pointer (some ⟨1, 0, none⟩)), (29, .pointer (some ⟨1, 2, none⟩)), (30, .agg ⟨[.int .i64 z68.2.2.1, .int .i64 z68.2.2.2.1]⟩), (31, .int .i64 r57), (32, .int .i64 (w64 (0 - r57))), (33, .pointer (some ⟨1, 0, none⟩)), (34, .pointer (some ⟨1, 0, none⟩)), (35, .agg ⟨[.int .i64 z68.1, .int .i64 z68.2.1]⟩), (36, .agg ⟨[.int .i64 r59.1, .int .i64 r59.2]⟩), (37, .pointer (some ⟨1, 6, none⟩)), (38, .agg ⟨[.int .i64 z68.2.2.2.2.2.2.1, .int .i64 z68.2.2.2.2.2.2.2]⟩), (39, .int .i64 r57), (40, .int .i64 (w64 (0 - r57))), (41, .pointer (some ⟨1, 4, none⟩)), (42, .agg ⟨[.int .i64 z68.2.2.2.2.1, .int .i64 z68.2.2.2.2.2.1]⟩), (43, .agg ⟨[.int .i64 r61.1, .int .i64 r61.2]⟩), (44, .pointer (some ⟨1, 0, none⟩)), (45, .pointer (some ⟨1, 2, none⟩))]), heap := [.cells 108 [.int .i64 0, .int .i64 0, .int .i64 0, .int .i64 0, .int .i64 0, .int .i64 0, .int .i64 0, .int .i64 0], .cells 108 [.int .i64 z68.1, .int .i64 z68.2.1, .int .i64 z68.2.2.1, .int .i64 z68.2.2.2.1, .int .i64 z68.2.2.2.2.1, .int .i64 z68.2.2.2.2.2.1, .int .i64 z68.2.2.2.2.2.2.1, .int .i64 z68.2.2.2.2.2.2.2]], own := [], upds := [] } : QSt)) (a1 := (st 73 [(2, .pointer (some ⟨0, 0, none⟩)), (3, .pointer (some ⟨1, 0, none⟩)), (4, .int .i64 r57), (28, .pointer (some ⟨1, 0, none⟩)), (29, .pointer (some ⟨1, 2, none⟩)), (30, .agg ⟨[.int .i64 z68.2.2.1, .int .i64 z68.2.2.2.1]⟩), (31, .int .i64 r57), (32, .int .i64 (w64 (0 - r57))), (33, .pointer (some ⟨1, 0, none⟩)), (34, .pointer (some ⟨1, 0, none⟩)), (35, .agg ⟨[.int .i64 z68.1, .int .i64 z68.2.1]⟩), (36, .agg ⟨[.int .i64 r59.1, .int .i64 r59.2]⟩), (37, .pointer (some ⟨1, 6, none⟩)), (38, .agg ⟨[.int .i64 z68.2.2.2.2.2.2.1, .int .i64 z68.2.2.2.2.2.2.2]⟩), (39, .int .i64 r57), (40, .int .i64 (w64 (0 - r57))), (41, .pointer (some ⟨1, 4, none⟩)), (42, .agg ⟨[.int .i64 z68.2.2.2.2.1, .int .i64 z68.2.2.2.2.2.1]⟩), (43, .agg ⟨[.int .i64 r61.1, .int .i64 r61.2]⟩), (44, .pointer (some ⟨1, 0, none⟩)), (45, .pointer (some ⟨1, 2, none⟩)), (46, .pointer (some ⟨1, 6, none⟩))])) (h1 := [.cells 108 [.int .i64 0, .int .i64 0, .int .i64 0, .int .i64 0, .int .i64 0, .int .i64 0, .int .i64 0, .int .i64 0], .cells 108 [.int .i64 z68.1, .int .i64 z68.2.1, .int .i64 r59.1, .int .i64 r59.2, .int .i64 z68.2.2.2.2.1, .int .i64 z68.2.2.2.2.2.1, .int .i64 r61.1, .int .i64 r61.2]]) (a2 := (st 73 [(2, .pointer (some ⟨0, 0, none⟩)), (3, .pointer (some ⟨1, 0, none⟩))])) (h2 := [.cells 108 [.int .i64 0, .int .i64 0, .int .i64 0, .int .i64 0, .int .i64 0, .int .i64 0, .int .i64 0, .int .i64 0], .cells 108 [.int .i64 z68.1, .int .i64 z68.2.1, .int .i64 r59.1, .int .i64 r59.2, .int .i64 z68.2.2.2.2.1, .int .i64 z68.2.2.2.2.2.1, .int .i64 r61.1, .int .i64 r61.2]]) [⟨53, [.agg ⟨[.int .i64 z68.2.2.1, .int .i64 z68.2.2.2.1]⟩, .int .i64 (w64 (0 - r57)), .agg ⟨[.int .i64 z68.1, .int .i64 z68.2.1]⟩], [.cells 108 [.int .i64 0, .int .i64 0, .int .i64 0, .int .i64 0, .int .i64 0, .int .i64 0, .int .i64 0, .int .i64 0], .cells 108 [.int .i64 z68.1, .int .i64 z68.2.1, .int .i64 z68.2.2.1, .int .i64 z68.2.2.2.1, .int .i64 z68.2.2.2.2.1, .int .i64 z68.2.2.2.2.2.1, .int .i64 z68.2.2.2.2.2.2.1, .int .i64 z68.2.2.2.2.2.2.2]], .agg ⟨[.int .i64 r59.1, .int .i64 r59.2]⟩, []⟩, ⟨78, [.agg ⟨[.int .i64 z68.2.2.2.2.2.2.1, .int .i64 z68.2.2.2.2.2.2.2]⟩, .int .i64 (w64 (0 - r57)), .agg ⟨[.int .i64 z68.2.2.2.2.1, .int .i64 z68.2.2.2.2.2.1]⟩], [.cells 108 [.int .i64 0, .int .i64 0, .int .i64 0, .int .i64 0, .int .i64 0, .int .i64 0, .int .i64 0, .int .i64 0], .cells 108 [.int .i64 z68.1, .int .i64 z68.2.1, .int .i64 z68.2.2.1, .int .i64 z68.2.2.2.1, .int .i64 z68.2.2.2.2.1, .int .i64 z68.2.2.2.2.2.1, .int .i64 z68.2.2.2.2.2.2.1, .int .i64 z68.2.2.2.2.2.2.2]], .agg ⟨[.int .i64 r61.1, .int .i64 r61.2]⟩, []⟩] hT mixed (by kernel_rfl) rfl 18 (by kernel_rfl) [] ?_ rfl (.inl ⟨rfl, rfl⟩) ?_ [2, 3] [0, 1] (by kernel_rfl) ?_
  · refine QI.run (s1 := ({ act := (st 73 [(2, .pointer (some ⟨0, 0, none⟩)), (3, .pointer (some ⟨1, 0, none⟩)), (4, .int .i64 r57), (28, .pointer (some ⟨1, 0, none⟩)), (29, .pointer (some ⟨1, 2, none⟩)), (30, .agg ⟨[.int .i64 z68.2.2.1, .int .i64 z68.2.2.2.1]⟩), (31, .int .i64 r57), (32, .int .i64 (w64 (0 - r57))), (33, .pointer (some ⟨1, 0, none⟩)), (34, .pointer (some ⟨1, 0, none⟩)), (35, .agg ⟨[.int .i64 z68.1, .int .i64 z68.2.1]⟩)]), heap := [.cells 108 [.int .i64 0, .int .i64 0, .int .i64 0, .int .i64 0, .int .i64 0, .int .i64 0, .int .i64 0, .int .i64 0], .cells 108 [.int .i64 z68.1, .int .i64 z68.2.1, .int .i64 z68.2.2.1, .int .i64 z68.2.2.2.1, .int .i64 z68.2.2.2.2.1, .int .i64 z68.2.2.2.2.2.1, .int .i64 z68.2.2.2.2.2.2.1, .int .i64 z68.2.2.2.2.2.2.2]], own := [], upds := [] } : QSt)) 8 (by kernel_rfl) (by kernel_rfl) ?_
    refine QI.op (q := { val := .agg ⟨[.int .i64 r59.1, .int .i64 r59.2]⟩, new := [] }) (s1 := ({ act := (st 73 [(2, .pointer (some ⟨0, 0, none⟩)), (3, .pointer (some ⟨1, 0, none⟩)), (4, .int .i64 r57), (28, .pointer (some ⟨1, 0, none⟩)), (29, .pointer (some ⟨1, 2, none⟩)), (30, .agg ⟨[.int .i64 z68.2.2.1, .int .i64 z68.2.2.2.1]⟩), (31, .int .i64 r57), (32, .int .i64 (w64 (0 - r57))), (33, .pointer (some ⟨1, 0, none⟩)), (34, .pointer (some ⟨1, 0, none⟩)), (35, .agg ⟨[.int .i64 z68.1, .int .i64 z68.2.1]⟩), (36, .agg ⟨[.int .i64 r59.1, .int .i64 r59.2]⟩)]), heap := [.cells 108 [.int .i64 0, .int .i64 0, .int .i64 0, .int .i64 0, .int .i64 0, .int .i64 0, .int .i64 0, .int .i64 0], .cells 108 [.int .i64 z68.1, .int .i64 z68.2.1, .int .i64 z68.2.2.1, .int .i64 z68.2.2.2.1, .int .i64 z68.2.2.2.2.1, .int .i64 z68.2.2.2.2.2.1, .int .i64 z68.2.2.2.2.2.2.1, .int .i64 z68.2.2.2.2.2.2.2]], own := [], upds := [] } : QSt)) (by decide) (qOf_call (g := 53) (args := [.agg ⟨[.int .i64 z68.2.2.1, .int .i64 z68.2.2.2.1]⟩, .int .i64 (w64 (0 - r57)), .agg ⟨[.int .i64 z68.1, .int .i64 z68.2.1]⟩]) (by kernel_rfl) lookC_hit) (by kernel_rfl) ?_
    refine QI.run (s1 := ({ act := (st 73 [(2, .pointer (some ⟨0, 0, none⟩)), (3, .pointer (some ⟨1, 0, none⟩)), (4, .int .i64 r57), (28, .pointer (some ⟨1, 0, none⟩)), (29, .pointer (some ⟨1, 2, none⟩)), (30, .agg ⟨[.int .i64 z68.2.2.1, .int .i64 z68.2.2.2.1]⟩), (31, .int .i64 r57), (32, .int .i64 (w64 (0 - r57))), (33, .pointer (some ⟨1, 0, none⟩)), (34, .pointer (some ⟨1, 0, none⟩)), (35, .agg ⟨[.int .i64 z68.1, .int .i64 z68.2.1]⟩), (36, .agg ⟨[.int .i64 r59.1, .int .i64 r59.2]⟩), (37, .pointer (some ⟨1, 6, none⟩)), (38, .agg ⟨[.int .i64 z68.2.2.2.2.2.2.1, .int .i64 z68.2.2.2.2.2.2.2]⟩), (39, .int .i64 r57), (40, .int .i64 (w64 (0 - r57))), (41, .pointer (some ⟨1, 4, none⟩)), (42, .agg ⟨[.int .i64 z68.2.2.2.2.1, .int .i64 z68.2.2.2.2.2.1]⟩)]), heap := [.cells 108 [.int .i64 0, .int .i64 0, .int .i64 0, .int .i64 0, .int .i64 0, .int .i64 0, .int .i64 0, .int .i64 0], .cells 108 [.int .i64 z68.1, .int .i64 z68.2.1, .int .i64 z68.2.2.1, .int .i64 z68.2.2.2.1, .int .i64 z68.2.2.2.2.1, .int .i64 z68.2.2.2.2.2.1, .int .i64 z68.2.2.2.2.2.2.1, .int .i64 z68.2.2.2.2.2.2.2]], own := [], upds := [] } : QSt)) 6 (by kernel_rfl) (by kernel_rfl) ?_
    refine QI.op (q := { val := .agg ⟨[.int .i64 r61.1, .int .i64 r61.2]⟩, new := [] }) (s1 := ({ act := (st 73 [(2, .pointer (some ⟨0, 0, none⟩)), (3, .pointer (some ⟨1, 0, none⟩)), (4, .int .i64 r57), (28, .pointer (some ⟨1, 0, none⟩)), (29, .pointer (some ⟨1, 2, none⟩)), (30, .agg ⟨[.int .i64 z68.2.2.1, .int .i64 z68.2.2.2.1]⟩), (31, .int .i64 r57), (32, .int .i64 (w64 (0 - r57))), (33, .pointer (some ⟨1, 0, none⟩)), (34, .pointer (some ⟨1, 0, none⟩)), (35, .agg ⟨[.int .i64 z68.1, .int .i64 z68.2.1]⟩), (36, .agg ⟨[.int .i64 r59.1, .int .i64 r59.2]⟩), (37, .pointer (some ⟨1, 6, none⟩)), (38, .agg ⟨[.int .i64 z68.2.2.2.2.2.2.1, .int .i64 z68.2.2.2.2.2.2.2]⟩), (39, .int .i64 r57), (40, .int .i64 (w64 (0 - r57))), (41, .pointer (some ⟨1, 4, none⟩)), (42, .agg ⟨[.int .i64 z68.2.2.2.2.1, .int .i64 z68.2.2.2.2.2.1]⟩), (43, .agg ⟨[.int .i64 r61.1, .int .i64 r61.2]⟩)]), heap := [.cells 108 [.int .i64 0, .int .i64 0, .int .i64 0, .int .i64 0, .int .i64 0, .int .i64 0, .int .i64 0, .int .i64 0], .cells 108 [.int .i64 z68.1, .int .i64 z68.2.1, .int .i64 z68.2.2.1, .int .i64 z68.2.2.2.1, .int .i64 z68.2.2.2.2.1, .int .i64 z68.2.2.2.2.2.1, .int .i64 z68.2.2.2.2.2.2.1, .int .i64 z68.2.2.2.2.2.2.2]], own := [], upds := [] } : QSt)) (by decide) (qOf_call (g := 78) (args := [.agg ⟨[.int .i64 z68.2.2.2.2.2.2.1, .int .i64 z68.2.2.2.2.2.2.2]⟩, .int .i64 (w64 (0 - r57)), .agg ⟨[.int .i64 z68.2.2.2.2.1, .int .i64 z68.2.2.2.2.2.1]⟩]) (by kernel_rfl) (lookC_skip (fun hg => absurd (show (53 : Nat) = 78 from hg) (by decide)) lookC_hit)) (by kernel_rfl) ?_
    refine QI.run (s1 := ({ act := (st 73 [(2, .pointer (some ⟨0, 0, none⟩)), (3, .pointer (some ⟨1, 0, none⟩)), (4, .int .i64 r57), (28, .pointer (some ⟨1, 0, none⟩)), (29, .pointer (some ⟨1, 2, none⟩)), (30, .agg ⟨[.int .i64 z68.2.2.1, .int .i64 z68.2.2.2.1]⟩), (31, .int .i64 r57), (32, .int .i64 (w64 (0 - r57))), (33, .pointer (some ⟨1, 0, none⟩)), (34, .pointer (some ⟨1, 0, none⟩)), (35, .agg ⟨[.int .i64 z68.1, .int .i64 z68.2.1]⟩), (36, .agg ⟨[.int .i64 r59.1, .int .i64 r59.2]⟩), (37, .pointer (some ⟨1, 6, none⟩)), (38, .agg ⟨[.int .i64 z68.2.2.2.2.2.2.1, .int .i64 z68.2.2.2.2.2.2.2]⟩), (39, .int .i64 r57), (40, .int .i64 (w64 (0 - r57))), (41, .pointer (some ⟨1, 4, none⟩)), (42, .agg ⟨[.int .i64 z68.2.2.2.2.1, .int .i64 z68.2.2.2.2.2.1]⟩), (43, .agg ⟨[.int .i64 r61.1, .int .i64 r61.2]⟩), (44, .pointer (some ⟨1, 0, none⟩)), (45, .pointer (some ⟨1, 2, none⟩))]), heap := [.cells 108 [.int .i64 0, .int .i64 0, .int .i64 0, .int .i64 0, .int .i64 0, .int .i64 0, .int .i64 0, .int .i64 0], .cells 108 [.int .i64 z68.1, .int .i64 z68.2.1, .int .i64 z68.2.2.1, .int .i64 z68.2.2.2.1, .int .i64 z68.2.2.2.2.1, .int .i64 z68.2.2.2.2.2.1, .int .i64 z68.2.2.2.2.2.2.1, .int .i64 z68.2.2.2.2.2.2.2]], own := [], upds := [] } : QSt)) 2 (by kernel_rfl) (by kernel_rfl) ?_
    exact QI.done (by kernel_rfl)
  · refine SI.run (a2 := (st 73 [(2, .pointer (some ⟨0, 0, none⟩)), (3, .pointer (some ⟨1, 0, none⟩)), (4, .int .i64 r57), (28, .pointer (some ⟨1, 0, none⟩)), (29, .pointer (some ⟨1, 2, none⟩)), (30, .agg ⟨[.int .i64 z68.2.2.1, .int .i64 z68.2.2.2.1]⟩), (31, .int .i64 r57), (32, .int .i64 (w64 (0 - r57))), (33, .pointer (some ⟨1, 0, none⟩)), (34, .pointer (some ⟨1, 0, none⟩)), (35, .agg ⟨[.int .i64 z68.1, .int .i64 z68.2.1]⟩), (36, .agg ⟨[.int .i64 r59.1, .int .i64 r59.2]⟩), (37, .pointer (some ⟨1, 6, none⟩)), (38, .agg ⟨[.int .i64 z68.2.2.2.2.2.2.1, .int .i64 z68.2.2.2.2.2.2.2]⟩), (39, .int .i64 r57), (40, .int .i64 (w64 (0 - r57))), (41, .pointer (some ⟨1, 4, none⟩)), (42, .agg ⟨[.int .i64 z68.2.2.2.2.1, .int .i64 z68.2.2.2.2.2.1]⟩), (43, .agg ⟨[.int .i64 r61.1, .int .i64 r61.2]⟩), (44, .pointer (some ⟨1, 0, none⟩)), (45, .pointer (some ⟨1, 2, none⟩)), (46, .pointer (some ⟨1, 6, none⟩))])) (h2 := [.cells 108 [.int .i64 0, .int .i64 0, .int .i64 0, .int .i64 0, .int .i64 0, .int .i64 0, .int .i64 0, .int .i64 0], .cells 108 [.int .i64 z68.1, .int .i64 z68.2.1, .int .i64 r59.1, .int .i64 r59.2, .int .i64 z68.2.2.2.2.1, .int .i64 z68.2.2.2.2.2.1, .int .i64 r61.1, .int .i64 r61.2]]) 3 (by kernel_rfl) ?_
    exact SI.done (by kernel_rfl)
  refine TS.seq' (x := c61.s2.s2.bd.bd.bd.s2.s2.s1) (y := c61.s2.s2.bd.bd.bd.s2.s2.s2) (by kernel_rfl) ?_
  refine TS.seq' (x := c61.s2.s2.bd.bd.bd.s2.s2.s1.s1) (y := c61.s2.s2.bd.bd.bd.s2.s2.s1.s2) (by kernel_rfl) ?_
  have hX := of_do hF
  clear hF
  obtain ⟨r63, h64, hF⟩ := hX
  have hX := of_do hF
  clear hF
  obtain ⟨r65, h66, hF⟩ := hX
  have hT : ∀ e ∈ ([⟨63, [.agg ⟨[.int .i64 z68.1, .int .i64 z68.2.1]⟩], [.cells 108 [.int .i64 0, .int .i64 0, .int .i64 0, .int .i64 0, .int .i64 0, .int .i64 0, .int .i64 0, .int .i64 0], .cells 108 [.int .i64 z68.1, .int .i64 z68.2.1, .int .i64 r59.1, .int .i64 r59.2, .int .i64 z68.2.2.2.2.1, .int .i64 z68.2.2.2.2.2.1, .int .i64 r61.1, .int .i64 r61.2]], .int .i64 r63, []⟩, ⟨63, [.agg ⟨[.int .i64 r59.1, .int .i64 r59.2]⟩], [.cells 108 [.int .i64 0, .int .i64 0, .int .i64 0, .int .i64 0, .int .i64 0, .int .i64 0, .int .i64 0, .int .i64 0], .cells 108 [.int .i64 z68.1, .int .i64 z68.2.1, .int .i64 r59.1, .int .i64 r59.2, .int .i64 z68.2.2.2.2.1, .int .i64 z68.2.2.2.2.2.1, .int .i64 r61.1, .int .i64 r61.2]], .int .i64 r65, []⟩] : List Entry), PureSim Try.prog e.g e.args e.h e.v e.new := by
    intro e he
    simp only [List.mem_cons, List.not_mem_nil, or_false] at he
    rcases he with rfl | rfl
    · exact (PureSim.any (C63 z68.1 z68.2.1 r63 h64) (flatL (by kernel_rfl)) (by kernel_rfl) [.cells 108 [.int .i64 0, .int .i64 0, .int .i64 0, .int .i64 0, .int .i64 0, .int .i64 0, .int .i64 0, .int .i64 0], .cells 108 [.int .i64 z68.1, .int .i64 z68.2.1, .int .i64 r59.1, .int .i64 r59.2, .int .i64 z68.2.2.2.2.1, .int .i64 z68.2.2.2.2.2.1, .int .i64 r61.1, .int .i64 r61.2]])
    · exact (PureSim.any (C63 r59.1 r59.2 r65 h66) (flatL (by kernel_rfl)) (by kernel_rfl) [.cells 108 [.int .i64 0, .int .i64 0, .int .i64 0, .int .i64 0, .int .i64 0, .int .i64 0, .int .i64 0, .int .i64 0], .cells 108 [.int .i64 z68.1, .int .i64 z68.2.1, .int .i64 r59.1, .int .i64 r59.2, .int .i64 z68.2.2.2.2.1, .int .i64 z68.2.2.2.2.2.1, .int .i64 r61.1, .int .i64 r61.2]])
  refine TS.draw' (id := 4) (b := true) (ops := c61.s2.s2.bd.bd.bd.s2.s2.s1.s1.rops) (fin := ({ act := (st 73 [(2, .pointer (some ⟨0, 0, none⟩)), (3, .pointer (some ⟨1, 0, none⟩)), (47, .pointer (some ⟨1, 0, none⟩)), (48, .pointer (some ⟨1, 0, none⟩)), (49, .agg ⟨[.int .i64 z68.1, .int .i64 z68.2.1]⟩), (50, .int .i64 r63), (51, .pointer (some ⟨1, 0, none⟩)), (52, .pointer (some ⟨1, 2, none⟩)), (53, .agg ⟨[.int .i64 r59.1, .int .i64 r59.2]⟩)]), heap := [.cells 108 [.int .i64 0, .int .i64 0, .int .i64 0, .int .i64 0, .int .i64 0, .int .i64 0, .int .i64 0, .int .i64 0], .cells 108 [.int .i64 z68.1, .int .i64 z68.2.1, .int .i64 r59.1, .int .i64 r59.2, .int .i64 z68.2.2.2.2.1, .int .i64 z68.2.2.2.2.2.1, .int .i64 r61.1, .int .i64 r61.2]], own := [], upds := [] } : QSt)) (fin2 := ({ act := (st 73 [(2, .pointer (some ⟨0, 0, none⟩)), (3, .pointer (some ⟨1, 0, none⟩)), (47, .pointer (some ⟨1, 0, none⟩)), (48, .pointer (some ⟨1, 0, none⟩)), (49, .agg ⟨[.int .i64 z68.1, .int .i64 z68.2.1]⟩), (50, .int .i64 r63), (51, .pointer (some ⟨1, 0, none⟩)), (52, .pointer (some ⟨1, 2, none⟩)), (53, .agg ⟨[.int .i64 r59.1, .int .i64 r59.2]⟩)]), heap := [.cells 108 [.int .i64 0, .int .i64 0, .int .i64 0, .int .i64 0, .int .i64 0, .int .i64 0, .int .i64 0, .int .i64 0], .cells 108 [.int .i64 z68.1, .int .i64 z68.2.1, .int .i64 r59.1, .int .i64 r59.2, .int .i64 z68.2.2.2.2.1, .int .i64 z68.2.2.2.2.2.1, .int .i64 r61.1, .int .i64 r61.2]], own := [], upds := [] } : QSt)) (a1 := (st 73 [(2, .pointer (some ⟨0, 0, none⟩)), (3, .pointer (some ⟨1, 0, none⟩)), (47, .pointer (some ⟨1, 0, none⟩)), (48, .pointer (some ⟨1, 0, none⟩)), (49, .agg ⟨[.int .i64 z68.1, .int .i64 z68.2.1]⟩), (50, .int .i64 r63), (51, .pointer (some ⟨1, 0, none⟩)), (52, .pointer (some ⟨1, 2, none⟩)), (53, .agg ⟨[.int .i64 r59.1, .int .i64 r59.2]⟩), (54, .int .i64 r65), (55, .bool (decide (r63 ≤ r65)))])) (h1 := [.cells 108 [.int .i64 0, .int .i64 0, .int .i64 0, .int .i64 0, .int .i64 0, .int .i64 0, .int .i64 0, .int .i64 0], .cells 108 [.int .i64 z68.1, .int .i64 z68.2.1, .int .i64 r59.1, .int .i64 r59.2, .int .i64 z68.2.2.2.2.1, .int .i64 z68.2.2.2.2.2.1, .int .i64 r61.1, .int .i64 r61.2]]) (a2 := (st 73 [(2, .pointer (some ⟨0, 0, none⟩)), (3, .pointer (some ⟨1, 0, none⟩)), (55, .bool (decide (r63 ≤ r65)))])) (h2 := [.cells 108 [.int .i64 0, .int .i64 0, .int .i64 0, .int .i64 0, .int .i64 0, .int .i64 0, .int .i64 0, .int .i64 0], .cells 108 [.int .i64 z68.1, .int .i64 z68.2.1, .int .i64 r59.1, .int .i64 r59.2, .int .i64 z68.2.2.2.2.1, .int .i64 z68.2.2.2.2.2.1, .int .i64 r61.1, .int .i64 r61.2]]) [⟨63, [.agg ⟨[.int .i64 z68.1, .int .i64 z68.2.1]⟩], [.cells 108 [.int .i64 0, .int .i64 0, .int .i64 0, .int .i64 0, .int .i64 0, .int .i64 0, .int .i64 0, .int .i64 0], .cells 108 [.int .i64 z68.1, .int .i64 z68.2.1, .int .i64 r59.1, .int .i64 r59.2, .int .i64 z68.2.2.2.2.1, .int .i64 z68.2.2.2.2.2.1, .int .i64 r61.1, .int .i64 r61.2]], .int .i64 r63, []⟩, ⟨63, [.agg ⟨[.int .i64 r59.1, .int .i64 r59.2]⟩], [.cells 108 [.int .i64 0, .int .i64 0, .int .i64 0, .int .i64 0, .int .i64 0, .int .i64 0, .int .i64 0, .int .i64 0], .cells 108 [.int .i64 z68.1, .int .i64 z68.2.1, .int .i64 r59.1, .int .i64 r59.2, .int .i64 z68.2.2.2.2.1, .int .i64 z68.2.2.2.2.2.1, .int .i64 r61.1, .int .i64 r61.2]], .int .i64 r65, []⟩] hT mixed (by kernel_rfl) rfl 7 (by kernel_rfl) [] ?_ rfl (.inl ⟨rfl, rfl⟩) ?_ [2, 3, 55] [0, 1] (by kernel_rfl) ?_
  · refine QI.run (s1 := ({ act := (st 73 [(2, .pointer (some ⟨0, 0, none⟩)), (3, .pointer (some ⟨1, 0, none⟩)), (47, .pointer (some ⟨1, 0, none⟩)), (48, .pointer (some ⟨1, 0, none⟩)), (49, .agg ⟨[.int .i64 z68.1, .int .i64 z68.2.1]⟩)]), heap := [.cells 108 [.int .i64 0, .int .i64 0, .int .i64 0, .int .i64 0, .int .i64 0, .int .i64 0, .int .i64 0, .int .i64 0], .cells 108 [.int .i64 z68.1, .int .i64 z68.2.1, .int .i64 r59.1, .int .i64 r59.2, .int .i64 z68.2.2.2.2.1, .int .i64 z68.2.2.2.2.2.1, .int .i64 r61.1, .int .i64 r61.2]], own := [], upds := [] } : QSt)) 3 (by kernel_rfl) (by kernel_rfl) ?_
    refine QI.op (q := { val := .int .i64 r63, new := [] }) (s1 := ({ act := (st 73 [(2, .pointer (some ⟨0, 0, none⟩)), (3, .pointer (some ⟨1, 0, none⟩)), (47, .pointer (some ⟨1, 0, none⟩)), (48, .pointer (some ⟨1, 0, none⟩)), (49, .agg ⟨[.int .i64 z68.1, .int .i64 z68.2.1]⟩), (50, .int .i64 r63)]), heap := [.cells 108 [.int .i64 0, .int .i64 0, .int .i64 0, .int .i64 0, .int .i64 0, .int .i64 0, .int .i64 0, .int .i64 0], .cells 108 [.int .i64 z68.1, .int .i64 z68.2.1, .int .i64 r59.1, .int .i64 r59.2, .int .i64 z68.2.2.2.2.1, .int .i64 z68.2.2.2.2.2.1, .int .i64 r61.1, .int .i64 r61.2]], own := [], upds := [] } : QSt)) (by decide) (qOf_call (g := 63) (args := [.agg ⟨[.int .i64 z68.1, .int .i64 z68.2.1]⟩]) (by kernel_rfl) lookC_hit) (by kernel_rfl) ?_
    refine QI.run (s1 := ({ act := (st 73 [(2, .pointer (some ⟨0, 0, none⟩)), (3, .pointer (some ⟨1, 0, none⟩)), (47, .pointer (some ⟨1, 0, none⟩)), (48, .pointer (some ⟨1, 0, none⟩)), (49, .agg ⟨[.int .i64 z68.1, .int .i64 z68.2.1]⟩), (50, .int .i64 r63), (51, .pointer (some ⟨1, 0, none⟩)), (52, .pointer (some ⟨1, 2, none⟩)), (53, .agg ⟨[.int .i64 r59.1, .int .i64 r59.2]⟩)]), heap := [.cells 108 [.int .i64 0, .int .i64 0, .int .i64 0, .int .i64 0, .int .i64 0, .int .i64 0, .int .i64 0, .int .i64 0], .cells 108 [.int .i64 z68.1, .int .i64 z68.2.1, .int .i64 r59.1, .int .i64 r59.2, .int .i64 z68.2.2.2.2.1, .int .i64 z68.2.2.2.2.2.1, .int .i64 r61.1, .int .i64 r61.2]], own := [], upds := [] } : QSt)) 3 (by kernel_rfl) (by kernel_rfl) ?_
    exact QI.done (by kernel_rfl)
  · refine SI.op (q := { val := .int .i64 r65, new := [] }) (a2 := (st 73 [(2, .pointer (some ⟨0, 0, none⟩)), (3, .pointer (some ⟨1, 0, none⟩)), (47, .pointer (some ⟨1, 0, none⟩)), (48, .pointer (some ⟨1, 0, none⟩)), (49, .agg ⟨[.int .i64 z68.1, .int .i64 z68.2.1]⟩), (50, .int .i64 r63), (51, .pointer (some ⟨1, 0, none⟩)), (52, .pointer (some ⟨1, 2, none⟩)), (53, .agg ⟨[.int .i64 r59.1, .int .i64 r59.2]⟩), (54, .int .i64 r65)])) (h2 := [.cells 108 [.int .i64 0, .int .i64 0, .int .i64 0, .int .i64 0, .int .i64 0, .int .i64 0, .int .i64 0, .int .i64 0], .cells 108 [.int .i64 z68.1, .int .i64 z68.2.1, .int .i64 r59.1, .int .i64 r59.2, .int .i64 z68.2.2.2.2.1, .int .i64 z68.2.2.2.2.2.1, .int .i64 r61.1, .int .i64 r61.2]]) (by kernel_rfl) (qOf_call (g := 63) (args := [.agg ⟨[.int .i64 r59.1, .int .i64 r59.2]⟩]) (by kernel_rfl) (lookC_skip (by intro _ ha _; have hq := h64; have hi := h66; clear hF; first | (exfalso; simp at ha; done) | ((try simp at ha); have hr := Option.some.inj (hq.symm.trans (Eq.trans (by first | rfl | (congr 1 <;> first | rfl | omega | simp_all)) hi)); subst hr; rfl)) lookC_hit)) (by kernel_rfl) (by kernel_rfl) ?_
    refine SI.run (a2 := (st 73 [(2, .pointer (some ⟨0, 0, none⟩)), (3, .pointer (some ⟨1, 0, none⟩)), (47, .pointer (some ⟨1, 0, none⟩)), (48, .pointer (some ⟨1, 0, none⟩)), (49, .agg ⟨[.int .i64 z68.1, .int .i64 z68.2.1]⟩), (50, .int .i64 r63), (51, .pointer (some ⟨1, 0, none⟩)), (52, .pointer (some ⟨1, 2, none⟩)), (53, .agg ⟨[.int .i64 r59.1, .int .i64 r59.2]⟩), (54, .int .i64 r65), (55, .bool (decide (r63 ≤ r65)))])) (h2 := [.cells 108 [.int .i64 0, .int .i64 0, .int .i64 0, .int .i64 0, .int .i64 0, .int .i64 0, .int .i64 0, .int .i64 0], .cells 108 [.int .i64 z68.1, .int .i64 z68.2.1, .int .i64 r59.1, .int .i64 r59.2, .int .i64 z68.2.2.2.2.1, .int .i64 z68.2.2.2.2.2.1, .int .i64 r61.1, .int .i64 r61.2]]) 1 (by kernel_rfl) ?_
    exact SI.done (by kernel_rfl)
  refine TS.cond' (o := (.tmp 55)) (x := c61.s2.s2.bd.bd.bd.s2.s2.s1.s2.th) (y := c61.s2.s2.bd.bd.bd.s2.s2.s1.s2.el) (b := decide (r63 ≤ r65)) (by kernel_rfl) (by kernel_rfl) (fun hc67 => ?_) (fun hc67 => ?_)
  · replace hF := of_pos hF hc67
    refine TS.seq' (x := c61.s2.s2.bd.bd.bd.s2.s2.s1.s2.th.s1) (y := c61.s2.s2.bd.bd.bd.s2.s2.s1.s2.th.s2) (by kernel_rfl) ?_
    refine TS.region' (id := 5) (b := false) (ops := c61.s2.s2.bd.bd.bd.s2.s2.s1.s2.th.s1.rops) (by kernel_rfl) rfl ?_
    refine TI.run 2 [2] [0] (a2 := (st 73 [(2, .pointer (some ⟨0, 0, none⟩))])) (h2 := [.cells 108 [.int .i64 z68.1, .int .i64 z68.2.1, .int .i64 r59.1, .int .i64 r59.2, .int .i64 z68.2.2.2.2.1, .int .i64 z68.2.2.2.2.2.1, .int .i64 r61.1, .int .i64 r61.2], .dead]) (by kernel_rfl) ?_
    refine TI.done (by kernel_rfl) ?_
    refine NX.sq ?_
    refine TS.ret' (by kernel_rfl) ?_
    refine NX.sqR ?_
    refine NX.bkR ?_
    have hF := Option.some.inj hF
    subst hF
    exact Rd.out (e := .ret) (by intro h; cases h) (And.intro rfl (Wk.anew (base := 0) (L := 0) (f := [0]) (by decide) (by decide) (Nat.le_of_ble_eq_true rfl) rfl (.cons (At.blk (by kernel_rfl) (RnB.lit (.cons (.flat (by kernel_rfl)) (.cons (.flat (by kernel_rfl)) (.cons (.flat (by kernel_rfl)) (.cons (.flat (by kernel_rfl)) (.cons (.flat (by kernel_rfl)) (.cons (.flat (by kernel_rfl)) (.cons (.flat (by kernel_rfl)) (.cons (.flat (by kernel_rfl)) .nil)))))))))) (.nil _)) (LRn.stx [2] [.pointer (some ⟨0, 0, none⟩)] [.pointer (some ⟨0, 0, none⟩)] (.cons (Rn.ptr _ _ _ (Nat.le_of_ble_eq_true rfl) rfl) .nil) (by kernel_rfl) (by kernel_rfl) rfl) rfl rfl))
  · replace hF := of_neg hF hc67
    refine TS.skip' (by kernel_rfl) ?_
    refine NX.sq ?_
    refine TS.region' (id := 6) (b := false) (ops := c61.s2.s2.bd.bd.bd.s2.s2.s2.rops) (by kernel_rfl) rfl ?_
    refine TI.run 20 [2, 3] [0, 1] (a2 := (st 73 [(2, .pointer (some ⟨0, 0, none⟩)), (3, .pointer (some ⟨1, 0, none⟩))])) (h2 := [.cells 108 [.int .i64 0, .int .i64 0, .int .i64 0, .int .i64 0, .int .i64 0, .int .i64 0, .int .i64 0, .int .i64 0], .cells 108 [.int .i64 r59.1, .int .i64 r59.2, .int .i64 z68.1, .int .i64 z68.2.1, .int .i64 r61.1, .int .i64 r61.2, .int .i64 z68.2.2.2.2.1, .int .i64 z68.2.2.2.2.2.1]]) (by kernel_rfl) ?_
    refine TI.done (by kernel_rfl) ?_
    refine NX.bk ?_
    exact Rd.again (a2 := (st 73 [(2, .pointer (some ⟨0, 0, none⟩)), (3, .pointer (some ⟨1, 0, none⟩))])) (h2 := [.cells 108 [.int .i64 0, .int .i64 0, .int .i64 0, .int .i64 0, .int .i64 0, .int .i64 0, .int .i64 0, .int .i64 0], .cells 108 [.int .i64 r59.1, .int .i64 r59.2, .int .i64 z68.1, .int .i64 z68.2.1, .int .i64 r61.1, .int .i64 r61.2, .int .i64 z68.2.2.2.2.1, .int .i64 z68.2.2.2.2.2.1]]) (Wk.anew (base := 0) (L := 0) (f := [0, 1]) (by decide) (by decide) (Nat.le_of_ble_eq_true rfl) rfl (.cons (At.blk (by kernel_rfl) (RnB.lit (.cons (.flat (by kernel_rfl)) (.cons (.flat (by kernel_rfl)) (.cons (.flat (by kernel_rfl)) (.cons (.flat (by kernel_rfl)) (.cons (.flat (by kernel_rfl)) (.cons (.flat (by kernel_rfl)) (.cons (.flat (by kernel_rfl)) (.cons (.flat (by kernel_rfl)) .nil)))))))))) (.cons (At.blk (by kernel_rfl) (RnB.lit (.cons (.flat (by kernel_rfl)) (.cons (.flat (by kernel_rfl)) (.cons (.flat (by kernel_rfl)) (.cons (.flat (by kernel_rfl)) (.cons (.flat (by kernel_rfl)) (.cons (.flat (by kernel_rfl)) (.cons (.flat (by kernel_rfl)) (.cons (.flat (by kernel_rfl)) .nil)))))))))) (.nil _))) (LRn.stx [2, 3] [.pointer (some ⟨0, 0, none⟩), .pointer (some ⟨1, 0, none⟩)] [.pointer (some ⟨0, 0, none⟩), .pointer (some ⟨1, 0, none⟩)] (.cons (Rn.ptr _ _ _ (Nat.le_of_ble_eq_true rfl) rfl) (.cons (Rn.ptr _ _ _ (Nat.le_of_ble_eq_true rfl) rfl) .nil)) (by kernel_rfl) (by kernel_rfl) rfl) rfl rfl) (ih (r59.1, r59.2, z68.1, z68.2.1, r61.1, r61.2, z68.2.2.2.2.1, z68.2.2.2.2.2.1) _ hF)
theorem B61 (p0 : Int) (p1 : Int) (p2 : Int) (p3 : Int) (r : (((Int × Int) × (Int × Int)) × (Int × Int) × (Int × Int))) (hF : F61 p0 p1 p2 p3 = some r) : TS Try.prog 0 0 c61 (st 73 [(0, .agg ⟨[.int .i64 p0, .int .i64 p1, .int .i64 p2, .int .i64 p3]⟩)]) [] (NX Try.prog 0 0 [] (FinP Try.prog Try.f61 0 (V61 0 r) (N61 0 r))) := by
  unfold F61 at hF
  refine TS.seq' (x := c61.s1) (y := c61.s2) (by kernel_rfl) ?_
  refine TS.region' (id := 0) (b := false) (ops := c61.s1.rops) (by kernel_rfl) rfl ?_
  refine TI.run 2 [1, 2] [0, 1] (a2 := (st 73 [(1, .pointer (some ⟨0, 0, none⟩)), (2, .pointer (some ⟨1, 0, none⟩))])) (h2 := [.cells 25 [.int .i64 p0, .int .i64 p1, .int .i64 p2, .int .i64 p3], .cells 108 [.int .i64 0, .int .i64 0, .int .i64 0, .int .i64 0, .int .i64 0, .int .i64 0, .int .i64 0, .int .i64 0]]) (by kernel_rfl) ?_
  refine TI.done (by kernel_rfl) ?_
  refine NX.sq ?_
  refine TS.seq' (x := c61.s2.s1) (y := c61.s2.s2) (by kernel_rfl) ?_
  refine TS.region' (id := 1) (b := false) (ops := c61.s2.s1.rops) (by kernel_rfl) rfl ?_
  refine TI.run 6 [2, 3] [1, 2] (a2 := (st 73 [(2, .pointer (some ⟨1, 0, none⟩)), (3, .pointer (some ⟨2, 0, none⟩))])) (h2 := [.dead, .cells 108 [.int .i64 0, .int .i64 0, .int .i64 0, .int .i64 0, .int .i64 0, .int .i64 0, .int .i64 0, .int .i64 0], .cells 108 [.int .i64 p0, .int .i64 p1, .int .i64 p2, .int .i64 p3, .int .i64 1, .int .i64 0, .int .i64 0, .int .i64 1]]) (by kernel_rfl) ?_
  refine TI.done (by kernel_rfl) ?_
  refine NX.sq ?_
  refine TS.block' (id := 0) (x := c61.s2.s2.bd) (by kernel_rfl) ?_
  have hX := of_do hF
  clear hF
  obtain ⟨r69, h70, hF⟩ := hX
  refine TS.loop' (x := c61.s2.s2.bd.bd) (by kernel_rfl) (TL.weak (a2 := (st 73 [(2, .pointer (some ⟨0, 0, none⟩)), (3, .pointer (some ⟨1, 0, none⟩))])) (h2 := [.cells 108 [.int .i64 0, .int .i64 0, .int .i64 0, .int .i64 0, .int .i64 0, .int .i64 0, .int .i64 0, .int .i64 0], .cells 108 [.int .i64 p0, .int .i64 p1, .int .i64 p2, .int .i64 p3, .int .i64 1, .int .i64 0, .int .i64 0, .int .i64 1]]) (Wk.anew (base := 0) (L := 0) (f := [1, 2]) (by decide) (by decide) (Nat.le_of_ble_eq_true rfl) rfl (.cons (At.blk (by kernel_rfl) (RnB.lit (.cons (.flat (by kernel_rfl)) (.cons (.flat (by kernel_rfl)) (.cons (.flat (by kernel_rfl)) (.cons (.flat (by kernel_rfl)) (.cons (.flat (by kernel_rfl)) (.cons (.flat (by kernel_rfl)) (.cons (.flat (by kernel_rfl)) (.cons (.flat (by kernel_rfl)) .nil)))))))))) (.cons (At.blk (by kernel_rfl) (RnB.lit (.cons (.flat (by kernel_rfl)) (.cons (.flat (by kernel_rfl)) (.cons (.flat (by kernel_rfl)) (.cons (.flat (by kernel_rfl)) (.cons (.flat (by kernel_rfl)) (.cons (.flat (by kernel_rfl)) (.cons (.flat (by kernel_rfl)) (.cons (.flat (by kernel_rfl)) .nil)))))))))) (.nil _))) (LRn.stx [2, 3] [.pointer (some ⟨0, 0, none⟩), .pointer (some ⟨1, 0, none⟩)] [.pointer (some ⟨1, 0, none⟩), .pointer (some ⟨2, 0, none⟩)] (.cons (Rn.ptr _ _ _ (Nat.le_of_ble_eq_true rfl) rfl) (.cons (Rn.ptr _ _ _ (Nat.le_of_ble_eq_true rfl) rfl) .nil)) (by kernel_rfl) (by kernel_rfl) rfl) rfl rfl) (TL.post (L61l0  p0 p1 p2 p3 1 0 0 1 r69 h70) ?_))
  rintro e a1 h1 hp
  obtain ⟨rfl, hw⟩ := hp
  refine ⟨(st 73 [(2, .pointer (some ⟨0, 0, none⟩))]), [.cells 108 [.int .i64 r69.1, .int .i64 r69.2.1, .int .i64 r69.2.2.1, .int .i64 r69.2.2.2.1, .int .i64 r69.2.2.2.2.1, .int .i64 r69.2.2.2.2.2.1, .int .i64 r69.2.2.2.2.2.2.1, .int .i64 r69.2.2.2.2.2.2.2]], ?_, hw⟩
  refine NX.bkR ?_
  have hF := Option.some.inj hF
  subst hF
  exact ⟨.inr rfl, rfl, .agg ⟨[.int .i64 r69.1, .int .i64 r69.2.1, .int .i64 r69.2.2.1, .int .i64 r69.2.2.2.1, .int .i64 r69.2.2.2.2.1, .int .i64 r69.2.2.2.2.2.1, .int .i64 r69.2.2.2.2.2.2.1, .int .i64 r69.2.2.2.2.2.2.2]⟩, by kernel_rfl, WkV.flat0 (by kernel_rfl) (Nat.le_of_ble_eq_true rfl)⟩
theorem C61 (p0 : Int) (p1 : Int) (p2 : Int) (p3 : Int) (r : (((Int × Int) × (Int × Int)) × (Int × Int) × (Int × Int))) (hF : F61 p0 p1 p2 p3 = some r) : PureSim Try.prog 61 [.agg ⟨[.int .i64 p0, .int .i64 p1, .int .i64 p2, .int .i64 p3]⟩] [] (V61 0 r) (N61 0 r) :=
  PureSim.of_Fin Try.func61 (c := c61) (by kernel_rfl) (by kernel_rfl) 0 rfl [0] [] (by kernel_rfl) (B61 p0 p1 p2 p3 r hF)

-- agonic/magnet.Reduce
noncomputable def c23 : Code := Try.f23.code
def F23 (p0 : Int) (p1 : Int) (p2 : Int) (p3 : Int) : Option ((Int × Int) × (Int × Int) × Int) :=
  F20 p0 p1 p2 p3 >>= fun r1 =>
  if r1 != 0 then
    some ((0, 0), (0, 0), r1)
  else
    F61 p0 p1 p2 p3 >>= fun r4 =>
    some ((r4.2.1.1, r4.2.1.2), (r4.2.2.1, r4.2.2.2), 0)
def V23 (b : Nat) (r : ((Int × Int) × (Int × Int) × Int)) : Value := .tuple ⟨[.agg ⟨[.int .i64 r.1.1, .int .i64 r.1.2]⟩, .agg ⟨[.int .i64 r.2.1.1, .int .i64 r.2.1.2]⟩, .int .i64 r.2.2]⟩
def N23 (b : Nat) (r : ((Int × Int) × (Int × Int) × Int)) : List Blk := []
theorem B23 (p0 : Int) (p1 : Int) (p2 : Int) (p3 : Int) (r : ((Int × Int) × (Int × Int) × Int)) (hF : F23 p0 p1 p2 p3 = some r) : TS Try.prog 0 0 c23 (st 20 [(0, .agg ⟨[.int .i64 p0, .int .i64 p1, .int .i64 p2, .int .i64 p3]⟩)]) [] (NX Try.prog 0 0 [] (FinP Try.prog Try.f23 0 (V23 0 r) (N23 0 r))) := by
  unfold F23 at hF
  refine TS.seq' (x := c23.s1) (y := c23.s2) (by kernel_rfl) ?_
  refine TS.region' (id := 0) (b := false) (ops := c23.s1.rops) (by kernel_rfl) rfl ?_
  refine TI.run 4 [1, 2, 3] [0, 1, 2] (a2 := (st 20 [(1, .pointer (some ⟨0, 0, none⟩)), (2, .pointer (some ⟨1, 0, none⟩)), (3, .pointer (some ⟨2, 0, none⟩))])) (h2 := [.cells 25 [.int .i64 p0, .int .i64 p1, .int .i64 p2, .int .i64 p3], .cells 27 [.int .i64 0, .int .i64 0], .cells 27 [.int .i64 0, .int .i64 0]]) (by kernel_rfl) ?_
  refine TI.done (by kernel_rfl) ?_
  refine NX.sq ?_
  refine TS.seq' (x := c23.s2.s1) (y := c23.s2.s2) (by kernel_rfl) ?_
  refine TS.seq' (x := c23.s2.s1.s1) (y := c23.s2.s1.s2) (by kernel_rfl) ?_
  have hX := of_do hF
  clear hF
  obtain ⟨r1, h2, hF⟩ := hX
  refine TS.region' (id := 1) (b := false) (ops := c23.s2.s1.s1.rops) (by kernel_rfl) rfl ?_
  refine TI.run 1 [1, 2, 3, 7] [0, 1, 2] (a2 := (st 20 [(1, .pointer (some ⟨0, 0, none⟩)), (2, .pointer (some ⟨1, 0, none⟩)), (3, .pointer (some ⟨2, 0, none⟩)), (7, .agg ⟨[.int .i64 p0, .int .i64 p1, .int .i64 p2, .int .i64 p3]⟩)])) (h2 := [.cells 25 [.int .i64 p0, .int .i64 p1, .int .i64 p2, .int .i64 p3], .cells 27 [.int .i64 0, .int .i64 0], .cells 27 [.int .i64 0, .int .i64 0]]) (by kernel_rfl) ?_
  refine TI.callM (g := 20) (args := [.agg ⟨[.int .i64 p0, .int .i64 p1, .int .i64 p2, .int .i64 p3]⟩]) (v := .int .i64 r1) (new := []) (by kernel_rfl) (PureSim.any (C20 p0 p1 p2 p3 r1 h2) (flatL (by kernel_rfl)) (by kernel_rfl) [.cells 25 [.int .i64 p0, .int .i64 p1, .int .i64 p2, .int .i64 p3], .cells 27 [.int .i64 0, .int .i64 0], .cells 27 [.int .i64 0, .int .i64 0]]) [1, 2, 3, 8] [0, 1, 2] (a2 := (st 20 [(1, .pointer (some ⟨0, 0, none⟩)), (2, .pointer (some ⟨1, 0, none⟩)), (3, .pointer (some ⟨2, 0, none⟩)), (8, .int .i64 r1)])) (h2 := [.cells 25 [.int .i64 p0, .int .i64 p1, .int .i64 p2, .int .i64 p3], .cells 27 [.int .i64 0, .int .i64 0], .cells 27 [.int .i64 0, .int .i64 0]]) (by kernel_rfl) ?_
  refine TI.run 1 [1, 2, 3, 5] [0, 1, 2] (a2 := (st 20 [(1, .pointer (some ⟨0, 0, none⟩)), (2, .pointer (some ⟨1, 0, none⟩)), (3, .pointer (some ⟨2, 0, none⟩)), (5, .int .i64 r1)])) (h2 := [.cells 25 [.int .i64 p0, .int .i64 p1, .int .i64 p2, .int .i64 p3], .cells 27 [.int .i64 0, .int .i64 0], .cells 27 [.int .i64 0, .int .i64 0]]) (by kernel_rfl) ?_
  refine TI.done (by kernel_rfl) ?_
  refine NX.sq ?_
  refine TS.seq' (x := c23.s2.s1.s2.s1) (y := c23.s2.s1.s2.s2) (by kernel_rfl) ?_
  refine TS.region' (id := 2) (b := false) (ops := c23.s2.s1.s2.s1.rops) (by kernel_rfl) rfl ?_
  refine TI.run 2 [1, 2, 3, 5, 10] [0, 1, 2] (a2 := (st 20 [(1, .pointer (some ⟨0, 0, none⟩)), (2, .pointer (some ⟨1, 0, none⟩)), (3, .pointer (some ⟨2, 0, none⟩)), (5, .int .i64 r1), (10, .bool (r1 != 0))])) (h2 := [.cells 25 [.int .i64 p0, .int .i64 p1, .int .i64 p2, .int .i64 p3], .cells 27 [.int .i64 0, .int .i64 0], .cells 27 [.int .i64 0, .int .i64 0]]) (by kernel_rfl) ?_
  refine TI.done (by kernel_rfl) ?_
  refine NX.sq ?_
  refine TS.cond' (o := (.tmp 10)) (x := c23.s2.s1.s2.s2.th) (y := c23.s2.s1.s2.s2.el) (b := r1 != 0) (by kernel_rfl) (by kernel_rfl) (fun hc3 => ?_) (fun hc3 => ?_)
  · replace hF := of_pos hF hc3
    refine TS.seq' (x := c23.s2.s1.s2.s2.th.s1) (y := c23.s2.s1.s2.s2.th.s2) (by kernel_rfl) ?_
    refine TS.region' (id := 3) (b := false) (ops := c23.s2.s1.s2.s2.th.s1.rops) (by kernel_rfl) rfl ?_
    refine TI.run 6 [2, 3, 4] [1, 2] (a2 := (st 20 [(2, .pointer (some ⟨1, 0, none⟩)), (3, .pointer (some ⟨2, 0, none⟩)), (4, .int .i64 r1)])) (h2 := [.dead, .cells 27 [.int .i64 0, .int .i64 0], .cells 27 [.int .i64 0, .int .i64 0]]) (by kernel_rfl) ?_
    refine TI.done (by kernel_rfl) ?_
    refine NX.sq ?_
    refine TS.ret' (by kernel_rfl) ?_
    refine NX.sqR ?_
    have hF := Option.some.inj hF
    subst hF
    exact ⟨.inr rfl, rfl, .tuple ⟨[.agg ⟨[.int .i64 0, .int .i64 0]⟩, .agg ⟨[.int .i64 0, .int .i64 0]⟩, .int .i64 r1]⟩, by kernel_rfl, WkV.flat0 (by kernel_rfl) (Nat.le_of_ble_eq_true rfl)⟩
  · replace hF := of_neg hF hc3
    refine TS.skip' (by kernel_rfl) ?_
    refine NX.sq ?_
    refine TS.seq' (x := c23.s2.s2.s1) (y := c23.s2.s2.s2) (by kernel_rfl) ?_
    have hX := of_do hF
    clear hF
    obtain ⟨r4, h5, hF⟩ := hX
    refine TS.region' (id := 4) (b := false) (ops := c23.s2.s2.s1.rops) (by kernel_rfl) rfl ?_
    refine TI.run 1 [2, 3, 14] [1, 2] (a2 := (st 20 [(2, .pointer (some ⟨1, 0, none⟩)), (3, .pointer (some ⟨2, 0, none⟩)), (14, .agg ⟨[.int .i64 p0, .int .i64 p1, .int .i64 p2, .int .i64 p3]⟩)])) (h2 := [.dead, .cells 27 [.int .i64 0, .int .i64 0], .cells 27 [.int .i64 0, .int .i64 0]]) (by kernel_rfl) ?_
    refine TI.callM (g := 61) (args := [.agg ⟨[.int .i64 p0, .int .i64 p1, .int .i64 p2, .int .i64 p3]⟩]) (v := .agg ⟨[.int .i64 r4.1.1.1, .int .i64 r4.1.1.2, .int .i64 r4.1.2.1, .int .i64 r4.1.2.2, .int .i64 r4.2.1.1, .int .i64 r4.2.1.2, .int .i64 r4.2.2.1, .int .i64 r4.2.2.2]⟩) (new := []) (by kernel_rfl) (PureSim.any (C61 p0 p1 p2 p3 r4 h5) (flatL (by kernel_rfl)) (by kernel_rfl) [.dead, .cells 27 [.int .i64 0, .int .i64 0], .cells 27 [.int .i64 0, .int .i64 0]]) [2, 3, 15] [1, 2] (a2 := (st 20 [(2, .pointer (some ⟨1, 0, none⟩)), (3, .pointer (some ⟨2, 0, none⟩)), (15, .agg ⟨[.int .i64 r4.1.1.1, .int .i64 r4.1.1.2, .int .i64 r4.1.2.1, .int .i64 r4.1.2.2, .int .i64 r4.2.1.1, .int .i64 r4.2.1.2, .int .i64 r4.2.2.1, .int .i64 r4.2.2.2]⟩)])) (h2 := [.dead, .cells 27 [.int .i64 0, .int .i64 0], .cells 27 [.int .i64 0, .int .i64 0]]) (by kernel_rfl) ?_
    refine TI.run 2 [2, 3, 6] [1, 2, 3] (a2 := (st 20 [(2, .pointer (some ⟨1, 0, none⟩)), (3, .pointer (some ⟨2, 0, none⟩)), (6, .pointer (some ⟨3, 0, none⟩))])) (h2 := [.dead, .cells 27 [.int .i64 0, .int .i64 0], .cells 27 [.int .i64 0, .int .i64 0], .cells 108 [.int .i64 r4.1.1.1, .int .i64 r4.1.1.2, .int .i64 r4.1.2.1, .int .i64 r4.1.2.2, .int .i64 r4.2.1.1, .int .i64 r4.2.1.2, .int .i64 r4.2.2.1, .int .i64 r4.2.2.2]]) (by kernel_rfl) ?_
    refine TI.done (by kernel_rfl) ?_
    refine NX.sq ?_
    refine TS.seq' (x := c23.s2.s2.s2.s1) (y := c23.s2.s2.s2.s2) (by kernel_rfl) ?_
    refine TS.draw' (id := 5) (b := true) (ops := c23.s2.s2.s2.s1.rops) (fin := ({ act := (st 20 [(2, .pointer (some ⟨1, 0, none⟩)), (3, .pointer (some ⟨2, 0, none⟩)), (6, .pointer (some ⟨3, 0, none⟩)), (16, .pointer (some ⟨3, 4, none⟩)), (17, .agg ⟨[.int .i64 r4.2.1.1, .int .i64 r4.2.1.2]⟩), (18, .pointer (some ⟨3, 6, none⟩)), (19, .agg ⟨[.int .i64 r4.2.2.1, .int .i64 r4.2.2.2]⟩)]), heap := [.dead, .cells 27 [.int .i64 r4.2.1.1, .int .i64 r4.2.1.2], .cells 27 [.int .i64 0, .int .i64 0], .cells 108 [.int .i64 r4.1.1.1, .int .i64 r4.1.1.2, .int .i64 r4.1.2.1, .int .i64 r4.1.2.2, .int .i64 r4.2.1.1, .int .i64 r4.2.1.2, .int .i64 r4.2.2.1, .int .i64 r4.2.2.2]], own := [], upds := [(4, 1)] } : QSt)) (fin2 := ({ act := (st 20 [(2, .pointer (some ⟨1, 0, none⟩)), (3, .pointer (some ⟨2, 0, none⟩)), (6, .pointer (some ⟨3, 0, none⟩)), (16, .pointer (some ⟨3, 4, none⟩)), (17, .agg ⟨[.int .i64 r4.2.1.1, .int .i64 r4.2.1.2]⟩), (18, .pointer (some ⟨3, 6, none⟩)), (19, .agg ⟨[.int .i64 r4.2.2.1, .int .i64 r4.2.2.2]⟩)]), heap := [.dead, .cells 27 [.int .i64 r4.2.1.1, .int .i64 r4.2.1.2], .cells 27 [.int .i64 0, .int .i64 0], .cells 108 [.int .i64 r4.1.1.1, .int .i64 r4.1.1.2, .int .i64 r4.1.2.1, .int .i64 r4.1.2.2, .int .i64 r4.2.1.1, .int .i64 r4.2.1.2, .int .i64 r4.2.2.1, .int .i64 r4.2.2.2]], own := [], upds := [(4, 1)] } : QSt)) (a1 := (st 20 [(2, .pointer (some ⟨1, 0, none⟩)), (3, .pointer (some ⟨2, 0, none⟩)), (4, .int .i64 0), (6, .pointer (some ⟨3, 0, none⟩)), (16, .pointer (some ⟨3, 4, none⟩)), (17, .agg ⟨[.int .i64 r4.2.1.1, .int .i64 r4.2.1.2]⟩), (18, .pointer (some ⟨3, 6, none⟩)), (19, .agg ⟨[.int .i64 r4.2.2.1, .int .i64 r4.2.2.2]⟩)])) (h1 := [.dead, .cells 27 [.int .i64 r4.2.1.1, .int .i64 r4.2.1.2], .cells 27 [.int .i64 r4.2.2.1, .int .i64 r4.2.2.2], .cells 108 [.int .i64 r4.1.1.1, .int .i64 r4.1.1.2, .int .i64 r4.1.2.1, .int .i64 r4.1.2.2, .int .i64 r4.2.1.1, .int .i64 r4.2.1.2, .int .i64 r4.2.2.1, .int .i64 r4.2.2.2]]) (a2 := (st 20 [(2, .pointer (some ⟨1, 0, none⟩)), (3, .pointer (some ⟨2, 0, none⟩)), (4, .int .i64 0)])) (h2 := [.dead, .cells 27 [.int .i64 r4.2.1.1, .int .i64 r4.2.1.2], .cells 27 [.int .i64 r4.2.2.1, .int .i64 r4.2.2.2], .dead]) [] (fun e he => by cases he) mixed (by kernel_rfl) rfl 5 (by kernel_rfl) [(4, 1)] ?_ rfl (.inr ⟨?_, (by kernel_rfl)⟩) ?_ [2, 3, 4] [1, 2] (by kernel_rfl) ?_
    · refine QI.run (s1 := ({ act := (st 20 [(2, .pointer (some ⟨1, 0, none⟩)), (3, .pointer (some ⟨2, 0, none⟩)), (6, .pointer (some ⟨3, 0, none⟩)), (16, .pointer (some ⟨3, 4, none⟩)), (17, .agg ⟨[.int .i64 r4.2.1.1, .int .i64 r4.2.1.2]⟩), (18, .pointer (some ⟨3, 6, none⟩)), (19, .agg ⟨[.int .i64 r4.2.2.1, .int .i64 r4.2.2.2]⟩)]), heap := [.dead, .cells 27 [.int .i64 r4.2.1.1, .int .i64 r4.2.1.2], .cells 27 [.int .i64 0, .int .i64 0], .cells 108 [.int .i64 r4.1.1.1, .int .i64 r4.1.1.2, .int .i64 r4.1.2.1, .int .i64 r4.1.2.2, .int .i64 r4.2.1.1, .int .i64 r4.2.1.2, .int .i64 r4.2.2.1, .int .i64 r4.2.2.2]], own := [], upds := [(4, 1)] } : QSt)) 5 (by kernel_rfl) (by kernel_rfl) ?_
      exact QI.done (by kernel_rfl)
    · refine QI.run (s1 := ({ act := (st 20 [(2, .pointer (some ⟨1, 0, none⟩)), (3, .pointer (some ⟨2, 0, none⟩)), (6, .pointer (some ⟨3, 0, none⟩)), (16, .pointer (some ⟨3, 4, none⟩)), (17, .agg ⟨[.int .i64 r4.2.1.1, .int .i64 r4.2.1.2]⟩), (18, .pointer (some ⟨3, 6, none⟩)), (19, .agg ⟨[.int .i64 r4.2.2.1, .int .i64 r4.2.2.2]⟩)]), heap := [.dead, .cells 27 [.int .i64 r4.2.1.1, .int .i64 r4.2.1.2], .cells 27 [.int .i64 0, .int .i64 0], .cells 108 [.int .i64 r4.1.1.1, .int .i64 r4.1.1.2, .int .i64 r4.1.2.1, .int .i64 r4.1.2.2, .int .i64 r4.2.1.1, .int .i64 r4.2.1.2, .int .i64 r4.2.2.1, .int .i64 r4.2.2.2]], own := [], upds := [(4, 1)] } : QSt)) 5 (by kernel_rfl) (by kernel_rfl) ?_
      exact QI.done (by kernel_rfl)
    · refine SI.run (a2 := (st 20 [(2, .pointer (some ⟨1, 0, none⟩)), (3, .pointer (some ⟨2, 0, none⟩)), (4, .int .i64 0), (6, .pointer (some ⟨3, 0, none⟩)), (16, .pointer (some ⟨3, 4, none⟩)), (17, .agg ⟨[.int .i64 r4.2.1.1, .int .i64 r4.2.1.2]⟩), (18, .pointer (some ⟨3, 6, none⟩)), (19, .agg ⟨[.int .i64 r4.2.2.1, .int .i64 r4.2.2.2]⟩)])) (h2 := [.dead, .cells 27 [.int .i64 r4.2.1.1, .int .i64 r4.2.1.2], .cells 27 [.int .i64 r4.2.2.1, .int .i64 r4.2.2.2], .cells 108 [.int .i64 r4.1.1.1, .int .i64 r4.1.1.2, .int .i64 r4.1.2.1, .int .i64 r4.1.2.2, .int .i64 r4.2.1.1, .int .i64 r4.2.1.2, .int .i64 r4.2.2.1, .int .i64 r4.2.2.2]]) 2 (by kernel_rfl) ?_
      exact SI.done (by kernel_rfl)
    refine TS.ret' (by kernel_rfl) ?_
    have hF := Option.some.inj hF
    subst hF
    exact ⟨.inr rfl, rfl, .tuple ⟨[.agg ⟨[.int .i64 r4.2.1.1, .int .i64 r4.2.1.2]⟩, .agg ⟨[.int .i64 r4.2.2.1, .int .i64 r4.2.2.2]⟩, .int .i64 0]⟩, by kernel_rfl, WkV.flat0 (by kernel_rfl) (Nat.le_of_ble_eq_true rfl)⟩
theorem C23 (p0 : Int) (p1 : Int) (p2 : Int) (p3 : Int) (r : ((Int × Int) × (Int × Int) × Int)) (hF : F23 p0 p1 p2 p3 = some r) : PureSim Try.prog 23 [.agg ⟨[.int .i64 p0, .int .i64 p1, .int .i64 p2, .int .i64 p3]⟩] [] (V23 0 r) (N23 0 r) :=
  PureSim.of_Fin Try.func23 (c := c23) (by kernel_rfl) (by kernel_rfl) 0 rfl [0] [] (by kernel_rfl) (B23 p0 p1 p2 p3 r hF)

-- agonic/agoniclaw06.tame
noncomputable def c38 : Code := Try.f38.code
def F38 (p0 : Int) (p1 : Int) : Option Bool :=
  (
    if decide (p0 ≥ (-1000000)) then
      if decide (p0 ≤ 1000000) then
        if decide (p1 ≥ (-1000000)) then
          some (decide (p1 ≤ 1000000))
        else
          some (false)
      else
        some (false)
    else
      some (false)
  : Option Bool) >>= fun m4 =>
  some m4
def V38 (b : Nat) (r : Bool) : Value := .bool r
def N38 (b : Nat) (r : Bool) : List Blk := []
theorem B38 (p0 : Int) (p1 : Int) (r : Bool) (hF : F38 p0 p1 = some r) : TS Try.prog 0 0 c38 (st 21 [(0, .agg ⟨[.int .i64 p0, .int .i64 p1]⟩)]) [] (NX Try.prog 0 0 [] (FinP Try.prog Try.f38 0 (V38 0 r) (N38 0 r))) := by
  unfold F38 at hF
  refine TS.seq' (x := c38.s1) (y := c38.s2) (by kernel_rfl) ?_
  refine TS.region' (id := 0) (b := false) (ops := c38.s1.rops) (by kernel_rfl) rfl ?_
  refine TI.run 2 [1] [0] (a2 := (st 21 [(1, .pointer (some ⟨0, 0, none⟩))])) (h2 := [.cells 27 [.int .i64 p0, .int .i64 p1]]) (by kernel_rfl) ?_
  refine TI.done (by kernel_rfl) ?_
  refine NX.sq ?_
  refine TS.seq' (x := c38.s2.s1) (y := c38.s2.s2) (by kernel_rfl) ?_
  have hX := of_do hF
  clear hF
  obtain ⟨m4, hm5, hF⟩ := hX
  have hK : NX Try.prog 0 0 [.sq c38.s2.s2] (FinP Try.prog Try.f38 0 (V38 0 r) (N38 0 r)) .normal (st 21 [(2, .bool m4)]) [.dead] := by
    refine NX.sq ?_
    refine TS.ret' (by kernel_rfl) ?_
    have hF := Option.some.inj hF
    subst hF
    exact ⟨.inr rfl, rfl, .bool m4, by kernel_rfl, WkV.flat0 (by kernel_rfl) (Nat.le_of_ble_eq_true rfl)⟩
  rcases Bool.eq_false_or_eq_true (decide (p0 ≥ (-1000000))) with hc1 | hc1
  · replace hm5 := of_pos hm5 hc1
    rcases Bool.eq_false_or_eq_true (decide (p0 ≤ 1000000)) with hc2 | hc2
    · replace hm5 := of_pos hm5 hc2
      rcases Bool.eq_false_or_eq_true (decide (p1 ≥ (-1000000))) with hc3 | hc3
      · replace hm5 := of_pos hm5 hc3
        have hm5 := Option.some.inj hm5
        subst hm5
        refine TS.region' (id := 1) (b := false) (ops := c38.s2.s1.rops) (by kernel_rfl) rfl ?_
        refine TI.run 2 [1, 4] [0] (a2 := (st 21 [(1, .pointer (some ⟨0, 0, none⟩)), (4, .int .i64 p0)])) (h2 := [.cells 27 [.int .i64 p0, .int .i64 p1]]) (by kernel_rfl) ?_
        refine TI.op (q := { val := .bool true }) (q_conv (e := decide (p0 ≥ (-1000000))) (b := true) (by kernel_rfl) hc1) [1, 5] [0] (a2 := (st 21 [(1, .pointer (some ⟨0, 0, none⟩)), (5, .bool true)])) (h2 := [.cells 27 [.int .i64 p0, .int .i64 p1]]) (by kernel_rfl) ?_
        refine TI.run 3 [1, 6, 8] [0] (a2 := (st 21 [(1, .pointer (some ⟨0, 0, none⟩)), (6, .bool true), (8, .int .i64 p0)])) (h2 := [.cells 27 [.int .i64 p0, .int .i64 p1]]) (by kernel_rfl) ?_
        refine TI.op (q := { val := .bool true }) (q_conv (e := decide (p0 ≤ 1000000)) (b := true) (by kernel_rfl) hc2) [1, 6, 9] [0] (a2 := (st 21 [(1, .pointer (some ⟨0, 0, none⟩)), (6, .bool true), (9, .bool true)])) (h2 := [.cells 27 [.int .i64 p0, .int .i64 p1]]) (by kernel_rfl) ?_
        refine TI.run 4 [1, 11, 13] [0] (a2 := (st 21 [(1, .pointer (some ⟨0, 0, none⟩)), (11, .bool true), (13, .int .i64 p1)])) (h2 := [.cells 27 [.int .i64 p0, .int .i64 p1]]) (by kernel_rfl) ?_
        refine TI.op (q := { val := .bool true }) (q_conv (e := decide (p1 ≥ (-1000000))) (b := true) (by kernel_rfl) hc3) [1, 11, 14] [0] (a2 := (st 21 [(1, .pointer (some ⟨0, 0, none⟩)), (11, .bool true), (14, .bool true)])) (h2 := [.cells 27 [.int .i64 p0, .int .i64 p1]]) (by kernel_rfl) ?_
        refine TI.run 7 [2] [] (a2 := (st 21 [(2, .bool (decide (p1 ≤ 1000000)))])) (h2 := [.dead]) (by kernel_rfl) ?_
        refine TI.done (by kernel_rfl) ?_
        exact hK
      · replace hm5 := of_neg hm5 hc3
        have hm5 := Option.some.inj hm5
        subst hm5
        refine TS.region' (id := 1) (b := false) (ops := c38.s2.s1.rops) (by kernel_rfl) rfl ?_
        refine TI.run 2 [1, 4] [0] (a2 := (st 21 [(1, .pointer (some ⟨0, 0, none⟩)), (4, .int .i64 p0)])) (h2 := [.cells 27 [.int .i64 p0, .int .i64 p1]]) (by kernel_rfl) ?_
        refine TI.op (q := { val := .bool true }) (q_conv (e := decide (p0 ≥ (-1000000))) (b := true) (by kernel_rfl) hc1) [1, 5] [0] (a2 := (st 21 [(1, .pointer (some ⟨0, 0, none⟩)), (5, .bool true)])) (h2 := [.cells 27 [.int .i64 p0, .int .i64 p1]]) (by kernel_rfl) ?_
        refine TI.run 3 [1, 6, 8] [0] (a2 := (st 21 [(1, .pointer (some ⟨0, 0, none⟩)), (6, .bool true), (8, .int .i64 p0)])) (h2 := [.cells 27 [.int .i64 p0, .int .i64 p1]]) (by kernel_rfl) ?_
        refine TI.op (q := { val := .bool true }) (q_conv (e := decide (p0 ≤ 1000000)) (b := true) (by kernel_rfl) hc2) [1, 6, 9] [0] (a2 := (st 21 [(1, .pointer (some ⟨0, 0, none⟩)), (6, .bool true), (9, .bool true)])) (h2 := [.cells 27 [.int .i64 p0, .int .i64 p1]]) (by kernel_rfl) ?_
        refine TI.run 4 [1, 11, 13] [0] (a2 := (st 21 [(1, .pointer (some ⟨0, 0, none⟩)), (11, .bool true), (13, .int .i64 p1)])) (h2 := [.cells 27 [.int .i64 p0, .int .i64 p1]]) (by kernel_rfl) ?_
        refine TI.op (q := { val := .bool false }) (q_conv (e := decide (p1 ≥ (-1000000))) (b := false) (by kernel_rfl) hc3) [1, 11, 14] [0] (a2 := (st 21 [(1, .pointer (some ⟨0, 0, none⟩)), (11, .bool true), (14, .bool false)])) (h2 := [.cells 27 [.int .i64 p0, .int .i64 p1]]) (by kernel_rfl) ?_
        refine TI.run 7 [2] [] (a2 := (st 21 [(2, .bool false)])) (h2 := [.dead]) (by kernel_rfl) ?_
        refine TI.done (by kernel_rfl) ?_
        exact hK
    · replace hm5 := of_neg hm5 hc2
      have hm5 := Option.some.inj hm5
      subst hm5
      refine TS.region' (id := 1) (b := false) (ops := c38.s2.s1.rops) (by kernel_rfl) rfl ?_
      refine TI.run 2 [1, 4] [0] (a2 := (st 21 [(1, .pointer (some ⟨0, 0, none⟩)), (4, .int .i64 p0)])) (h2 := [.cells 27 [.int .i64 p0, .int .i64 p1]]) (by kernel_rfl) ?_
      refine TI.op (q := { val := .bool true }) (q_conv (e := decide (p0 ≥ (-1000000))) (b := true) (by kernel_rfl) hc1) [1, 5] [0] (a2 := (st 21 [(1, .pointer (some ⟨0, 0, none⟩)), (5, .bool true)])) (h2 := [.cells 27 [.int .i64 p0, .int .i64 p1]]) (by kernel_rfl) ?_
      refine TI.run 3 [1, 6, 8] [0] (a2 := (st 21 [(1, .pointer (some ⟨0, 0, none⟩)), (6, .bool true), (8, .int .i64 p0)])) (h2 := [.cells 27 [.int .i64 p0, .int .i64 p1]]) (by kernel_rfl) ?_
      refine TI.op (q := { val := .bool false }) (q_conv (e := decide (p0 ≤ 1000000)) (b := false) (by kernel_rfl) hc2) [1, 6, 9] [0] (a2 := (st 21 [(1, .pointer (some ⟨0, 0, none⟩)), (6, .bool true), (9, .bool false)])) (h2 := [.cells 27 [.int .i64 p0, .int .i64 p1]]) (by kernel_rfl) ?_
      refine TI.run 12 [2] [] (a2 := (st 21 [(2, .bool false)])) (h2 := [.dead]) (by kernel_rfl) ?_
      refine TI.done (by kernel_rfl) ?_
      exact hK
  · replace hm5 := of_neg hm5 hc1
    have hm5 := Option.some.inj hm5
    subst hm5
    refine TS.region' (id := 1) (b := false) (ops := c38.s2.s1.rops) (by kernel_rfl) rfl ?_
    refine TI.run 2 [1, 4] [0] (a2 := (st 21 [(1, .pointer (some ⟨0, 0, none⟩)), (4, .int .i64 p0)])) (h2 := [.cells 27 [.int .i64 p0, .int .i64 p1]]) (by kernel_rfl) ?_
    refine TI.op (q := { val := .bool false }) (q_conv (e := decide (p0 ≥ (-1000000))) (b := false) (by kernel_rfl) hc1) [1, 5] [0] (a2 := (st 21 [(1, .pointer (some ⟨0, 0, none⟩)), (5, .bool false)])) (h2 := [.cells 27 [.int .i64 p0, .int .i64 p1]]) (by kernel_rfl) ?_
    refine TI.run 16 [2] [] (a2 := (st 21 [(2, .bool false)])) (h2 := [.dead]) (by kernel_rfl) ?_
    refine TI.done (by kernel_rfl) ?_
    exact hK
theorem C38 (p0 : Int) (p1 : Int) (r : Bool) (hF : F38 p0 p1 = some r) : PureSim Try.prog 38 [.agg ⟨[.int .i64 p0, .int .i64 p1]⟩] [] (V38 0 r) (N38 0 r) :=
  PureSim.of_Fin Try.func38 (c := c38) (by kernel_rfl) (by kernel_rfl) 0 rfl [0] [] (by kernel_rfl) (B38 p0 p1 r hF)

-- agonic/agoniclaw06.pull
noncomputable def c40 : Code := Try.f40.code
def F40 (p0 : Int) (p1 : Int) (p2 : Int) (p3 : Int) (p4 : Int) (p5 : Int) : Option (Int × Int) :=
  F43 (w64 ((w64 (p4 * p0)) + (w64 (p5 * p2)))) (w64 ((w64 (p4 * p1)) + (w64 (p5 * p3)))) >>= fun r1 =>
  some (r1.1, r1.2)
def V40 (b : Nat) (r : (Int × Int)) : Value := .agg ⟨[.int .i64 r.1, .int .i64 r.2]⟩
def N40 (b : Nat) (r : (Int × Int)) : List Blk := []
theorem B40 (p0 : Int) (p1 : Int) (p2 : Int) (p3 : Int) (p4 : Int) (p5 : Int) (r : (Int × Int)) (hF : F40 p0 p1 p2 p3 p4 p5 = some r) : TS Try.prog 0 0 c40 (st 32 [(0, .agg ⟨[.int .i64 p0, .int .i64 p1, .int .i64 p2, .int .i64 p3]⟩), (1, .agg ⟨[.int .i64 p4, .int .i64 p5]⟩)]) [] (NX Try.prog 0 0 [] (FinP Try.prog Try.f40 0 (V40 0 r) (N40 0 r))) := by
  unfold F40 at hF
  refine TS.seq' (x := c40.s1) (y := c40.s2) (by kernel_rfl) ?_
  refine TS.region' (id := 0) (b := false) (ops := c40.s1.rops) (by kernel_rfl) rfl ?_
  refine TI.run 3 [2, 3, 4] [0, 1, 2] (a2 := (st 32 [(2, .pointer (some ⟨0, 0, none⟩)), (3, .pointer (some ⟨1, 0, none⟩)), (4, .pointer (some ⟨2, 0, none⟩))])) (h2 := [.cells 25 [.int .i64 p0, .int .i64 p1, .int .i64 p2, .int .i64 p3], .cells 27 [.int .i64 p4, .int .i64 p5], .cells 23 [.int .i64 0, .int .i64 0]]) (by kernel_rfl) ?_
  refine TI.done (by kernel_rfl) ?_
  refine NX.sq ?_
  refine TS.seq' (x := c40.s2.s1) (y := c40.s2.s2) (by kernel_rfl) ?_
  have hX := of_do hF
  clear hF
  obtain ⟨r1, h2, hF⟩ := hX
  refine TS.region' (id := 1) (b := false) (ops := c40.s2.s1.rops) (by kernel_rfl) rfl ?_
  refine TI.run 26 [4, 17, 30] [2] (a2 := (st 32 [(4, .pointer (some ⟨2, 0, none⟩)), (17, .int .i64 (w64 ((w64 (p4 * p0)) + (w64 (p5 * p2))))), (30, .int .i64 (w64 ((w64 (p4 * p1)) + (w64 (p5 * p3)))))])) (h2 := [.dead, .dead, .cells 23 [.int .i64 0, .int .i64 0]]) (by kernel_rfl) ?_
  refine TI.callM (g := 43) (args := [.int .i64 (w64 ((w64 (p4 * p0)) + (w64 (p5 * p2)))), .int .i64 (w64 ((w64 (p4 * p1)) + (w64 (p5 * p3))))]) (v := .agg ⟨[.int .i64 r1.1, .int .i64 r1.2]⟩) (new := []) (by kernel_rfl) (PureSim.any (C43 (w64 ((w64 (p4 * p0)) + (w64 (p5 * p2)))) (w64 ((w64 (p4 * p1)) + (w64 (p5 * p3)))) r1 h2) (flatL (by kernel_rfl)) (by kernel_rfl) [.dead, .dead, .cells 23 [.int .i64 0, .int .i64 0]]) [4, 31] [2] (a2 := (st 32 [(4, .pointer (some ⟨2, 0, none⟩)), (31, .agg ⟨[.int .i64 r1.1, .int .i64 r1.2]⟩)])) (h2 := [.dead, .dead, .cells 23 [.int .i64 0, .int .i64 0]]) (by kernel_rfl) ?_
  refine TI.run 1 [4] [2] (a2 := (st 32 [(4, .pointer (some ⟨2, 0, none⟩))])) (h2 := [.dead, .dead, .cells 23 [.int .i64 r1.1, .int .i64 r1.2]]) (by kernel_rfl) ?_
  refine TI.done (by kernel_rfl) ?_
  refine NX.sq ?_
  refine TS.ret' (by kernel_rfl) ?_
  have hF := Option.some.inj hF
  subst hF
  exact ⟨.inr rfl, rfl, .agg ⟨[.int .i64 r1.1, .int .i64 r1.2]⟩, by kernel_rfl, WkV.flat0 (by kernel_rfl) (Nat.le_of_ble_eq_true rfl)⟩
theorem C40 (p0 : Int) (p1 : Int) (p2 : Int) (p3 : Int) (p4 : Int) (p5 : Int) (r : (Int × Int)) (hF : F40 p0 p1 p2 p3 p4 p5 = some r) : PureSim Try.prog 40 [.agg ⟨[.int .i64 p0, .int .i64 p1, .int .i64 p2, .int .i64 p3]⟩, .agg ⟨[.int .i64 p4, .int .i64 p5]⟩] [] (V40 0 r) (N40 0 r) :=
  PureSim.of_Fin Try.func40 (c := c40) (by kernel_rfl) (by kernel_rfl) 0 rfl [0, 1] [] (by kernel_rfl) (B40 p0 p1 p2 p3 p4 p5 r hF)

-- agonic/agoniclaw06.dot
noncomputable def c41 : Code := Try.f41.code
def F41 (p0 : Int) (p1 : Int) (p2 : Int) (p3 : Int) : Option Int :=
  some (w64 ((w64 (p0 * p2)) + (w64 (p1 * p3))))
def V41 (b : Nat) (r : Int) : Value := .int .i64 r
def N41 (b : Nat) (r : Int) : List Blk := []
theorem B41 (p0 : Int) (p1 : Int) (p2 : Int) (p3 : Int) (r : Int) (hF : F41 p0 p1 p2 p3 = some r) : TS Try.prog 0 0 c41 (st 16 [(0, .agg ⟨[.int .i64 p0, .int .i64 p1]⟩), (1, .agg ⟨[.int .i64 p2, .int .i64 p3]⟩)]) [] (NX Try.prog 0 0 [] (FinP Try.prog Try.f41 0 (V41 0 r) (N41 0 r))) := by
  unfold F41 at hF
  refine TS.seq' (x := c41.s1) (y := c41.s2) (by kernel_rfl) ?_
  refine TS.region' (id := 0) (b := false) (ops := c41.s1.rops) (by kernel_rfl) rfl ?_
  refine TI.run 3 [2, 3] [0, 1] (a2 := (st 16 [(2, .pointer (some ⟨0, 0, none⟩)), (3, .pointer (some ⟨1, 0, none⟩))])) (h2 := [.cells 23 [.int .i64 p0, .int .i64 p1], .cells 23 [.int .i64 p2, .int .i64 p3]]) (by kernel_rfl) ?_
  refine TI.done (by kernel_rfl) ?_
  refine NX.sq ?_
  refine TS.seq' (x := c41.s2.s1) (y := c41.s2.s2) (by kernel_rfl) ?_
  refine TS.region' (id := 1) (b := false) (ops := c41.s2.s1.rops) (by kernel_rfl) rfl ?_
  refine TI.run 12 [4] [] (a2 := (st 16 [(4, .int .i64 (w64 ((w64 (p0 * p2)) + (w64 (p1 * p3)))))])) (h2 := [.dead, .dead]) (by kernel_rfl) ?_
  refine TI.done (by kernel_rfl) ?_
  refine NX.sq ?_
  refine TS.ret' (by kernel_rfl) ?_
  have hF := Option.some.inj hF
  subst hF
  exact ⟨.inr rfl, rfl, .int .i64 (w64 ((w64 (p0 * p2)) + (w64 (p1 * p3)))), by kernel_rfl, WkV.flat0 (by kernel_rfl) (Nat.le_of_ble_eq_true rfl)⟩
theorem C41 (p0 : Int) (p1 : Int) (p2 : Int) (p3 : Int) (r : Int) (hF : F41 p0 p1 p2 p3 = some r) : PureSim Try.prog 41 [.agg ⟨[.int .i64 p0, .int .i64 p1]⟩, .agg ⟨[.int .i64 p2, .int .i64 p3]⟩] [] (V41 0 r) (N41 0 r) :=
  PureSim.of_Fin Try.func41 (c := c41) (by kernel_rfl) (by kernel_rfl) 0 rfl [0, 1] [] (by kernel_rfl) (B41 p0 p1 p2 p3 r hF)

end Go.Proofs.Ytenjelagfbceeaa
