/- What functions of the program compute, and that they do. -/
import Derived.Test.YtenjelagfbceeaaG4a
set_option linter.unusedVariables false
set_option linter.unusedSimpArgs false
set_option maxRecDepth 100000
set_option maxHeartbeats 4000000
namespace Go.Proofs.Ytenjelagfbceeaa
open Go Go.Cl
-- agonic/agonicref06.Reduce
noncomputable def c24 : Code := Try.f24.code
def F24 (p0 : Int) (p1 : Int) (p2 : Int) (p3 : Int) : Option ((Int × Int) × (Int × Int) × Int) :=
  F21 p0 p1 p2 p3 >>= fun r1 =>
  if r1 != 0 then
    some ((0, 0), (0, 0), r1)
  else
    F62 p0 p1 p2 p3 >>= fun r4 =>
    some ((r4.1.1, r4.1.2), (r4.2.1, r4.2.2), 0)
def V24 (b : Nat) (r : ((Int × Int) × (Int × Int) × Int)) : Value := .tuple ⟨[.agg ⟨[.int .i64 r.1.1, .int .i64 r.1.2]⟩, .agg ⟨[.int .i64 r.2.1.1, .int .i64 r.2.1.2]⟩, .int .i64 r.2.2]⟩
def N24 (b : Nat) (r : ((Int × Int) × (Int × Int) × Int)) : List Blk := []
theorem B24 (p0 : Int) (p1 : Int) (p2 : Int) (p3 : Int) (r : ((Int × Int) × (Int × Int) × Int)) (hF : F24 p0 p1 p2 p3 = some r) : TS Try.prog 0 0 c24 (st 22 [(0, .agg ⟨[.int .i64 p0, .int .i64 p1, .int .i64 p2, .int .i64 p3]⟩)]) [] (NX Try.prog 0 0 [] (FinP Try.prog Try.f24 0 (V24 0 r) (N24 0 r))) := by
  unfold F24 at hF
  refine TS.seq' (x := c24.s1) (y := c24.s2) (by kernel_rfl) ?_
  refine TS.region' (id := 0) (b := false) (ops := c24.s1.rops) (by kernel_rfl) rfl ?_
  refine TI.run 4 [1, 2, 3] [0, 1, 2] (a2 := (st 22 [(1, .pointer (some ⟨0, 0, none⟩)), (2, .pointer (some ⟨1, 0, none⟩)), (3, .pointer (some ⟨2, 0, none⟩))])) (h2 := [.cells 30 [.int .i64 p0, .int .i64 p1, .int .i64 p2, .int .i64 p3], .cells 41 [.int .i64 0, .int .i64 0], .cells 41 [.int .i64 0, .int .i64 0]]) (by kernel_rfl) ?_
  refine TI.done (by kernel_rfl) ?_
  refine NX.sq ?_
  refine TS.seq' (x := c24.s2.s1) (y := c24.s2.s2) (by kernel_rfl) ?_
  have hX := of_do hF
  clear hF
  obtain ⟨r1, h2, hF⟩ := hX
  refine TS.region' (id := 1) (b := false) (ops := c24.s2.s1.rops) (by kernel_rfl) rfl ?_
  refine TI.run 1 [1, 2, 3, 8] [0, 1, 2] (a2 := (st 22 [(1, .pointer (some ⟨0, 0, none⟩)), (2, .pointer (some ⟨1, 0, none⟩)), (3, .pointer (some ⟨2, 0, none⟩)), (8, .agg ⟨[.int .i64 p0, .int .i64 p1, .int .i64 p2, .int .i64 p3]⟩)])) (h2 := [.cells 30 [.int .i64 p0, .int .i64 p1, .int .i64 p2, .int .i64 p3], .cells 41 [.int .i64 0, .int .i64 0], .cells 41 [.int .i64 0, .int .i64 0]]) (by kernel_rfl) ?_
  refine TI.callM (g := 21) (args := [.agg ⟨[.int .i64 p0, .int .i64 p1, .int .i64 p2, .int .i64 p3]⟩]) (v := .int .i64 r1) (new := []) (by kernel_rfl) (PureSim.any (C21 p0 p1 p2 p3 r1 h2) (flatL (by kernel_rfl)) (by kernel_rfl) [.cells 30 [.int .i64 p0, .int .i64 p1, .int .i64 p2, .int .i64 p3], .cells 41 [.int .i64 0, .int .i64 0], .cells 41 [.int .i64 0, .int .i64 0]]) [1, 2, 3, 9] [0, 1, 2] (a2 := (st 22 [(1, .pointer (some ⟨0, 0, none⟩)), (2, .pointer (some ⟨1, 0, none⟩)), (3, .pointer (some ⟨2, 0, none⟩)), (9, .int .i64 r1)])) (h2 := [.cells 30 [.int .i64 p0, .int .i64 p1, .int .i64 p2, .int .i64 p3], .cells 41 [.int .i64 0, .int .i64 0], .cells 41 [.int .i64 0, .int .i64 0]]) (by kernel_rfl) ?_
  refine TI.run 1 [1, 2, 3, 5] [0, 1, 2] (a2 := (st 22 [(1, .pointer (some ⟨0, 0, none⟩)), (2, .pointer (some ⟨1, 0, none⟩)), (3, .pointer (some ⟨2, 0, none⟩)), (5, .int .i64 r1)])) (h2 := [.cells 30 [.int .i64 p0, .int .i64 p1, .int .i64 p2, .int .i64 p3], .cells 41 [.int .i64 0, .int .i64 0], .cells 41 [.int .i64 0, .int .i64 0]]) (by kernel_rfl) ?_
  refine TI.done (by kernel_rfl) ?_
  refine NX.sq ?_
  refine TS.seq' (x := c24.s2.s2.s1) (y := c24.s2.s2.s2) (by kernel_rfl) ?_
  refine TS.seq' (x := c24.s2.s2.s1.s1) (y := c24.s2.s2.s1.s2) (by kernel_rfl) ?_
  refine TS.region' (id := 2) (b := false) (ops := c24.s2.s2.s1.s1.rops) (by kernel_rfl) rfl ?_
  refine TI.run 2 [1, 2, 3, 5, 11] [0, 1, 2] (a2 := (st 22 [(1, .pointer (some ⟨0, 0, none⟩)), (2, .pointer (some ⟨1, 0, none⟩)), (3, .pointer (some ⟨2, 0, none⟩)), (5, .int .i64 r1), (11, .bool (r1 != 0))])) (h2 := [.cells 30 [.int .i64 p0, .int .i64 p1, .int .i64 p2, .int .i64 p3], .cells 41 [.int .i64 0, .int .i64 0], .cells 41 [.int .i64 0, .int .i64 0]]) (by kernel_rfl) ?_
  refine TI.done (by kernel_rfl) ?_
  refine NX.sq ?_
  refine TS.cond' (o := (.tmp 11)) (x := c24.s2.s2.s1.s2.th) (y := c24.s2.s2.s1.s2.el) (b := r1 != 0) (by kernel_rfl) (by kernel_rfl) (fun hc3 => ?_) (fun hc3 => ?_)
  · replace hF := of_pos hF hc3
    refine TS.seq' (x := c24.s2.s2.s1.s2.th.s1) (y := c24.s2.s2.s1.s2.th.s2) (by kernel_rfl) ?_
    refine TS.region' (id := 3) (b := false) (ops := c24.s2.s2.s1.s2.th.s1.rops) (by kernel_rfl) rfl ?_
    refine TI.run 6 [2, 3, 4] [1, 2] (a2 := (st 22 [(2, .pointer (some ⟨1, 0, none⟩)), (3, .pointer (some ⟨2, 0, none⟩)), (4, .int .i64 r1)])) (h2 := [.dead, .cells 41 [.int .i64 0, .int .i64 0], .cells 41 [.int .i64 0, .int .i64 0]]) (by kernel_rfl) ?_
    refine TI.done (by kernel_rfl) ?_
    refine NX.sq ?_
    refine TS.ret' (by kernel_rfl) ?_
    refine NX.sqR ?_
    have hF := Option.some.inj hF
    subst hF
    exact ⟨.inr rfl, rfl, .tuple ⟨[.agg ⟨[.int .i64 0, .int .i64 0]⟩, .agg ⟨[.int .i64 0, .int .i64 0]⟩, .int .i64 r1]⟩, by kernel_rfl, WkV.flat0 (by kernel_rfl) (Nat.le_of_ble_eq_true rfl)⟩
  · replace hF := of_neg hF hc3
    refine TS.skip' (by kernel_rfl) ?_
    refine NX.sq ?_
    refine TS.seq' (x := c24.s2.s2.s2.s1) (y := c24.s2.s2.s2.s2) (by kernel_rfl) ?_
    have hX := of_do hF
    clear hF
    obtain ⟨r4, h5, hF⟩ := hX
    refine TS.region' (id := 4) (b := false) (ops := c24.s2.s2.s2.s1.rops) (by kernel_rfl) rfl ?_
    refine TI.run 1 [2, 3, 16] [1, 2] (a2 := (st 22 [(2, .pointer (some ⟨1, 0, none⟩)), (3, .pointer (some ⟨2, 0, none⟩)), (16, .agg ⟨[.int .i64 p0, .int .i64 p1, .int .i64 p2, .int .i64 p3]⟩)])) (h2 := [.dead, .cells 41 [.int .i64 0, .int .i64 0], .cells 41 [.int .i64 0, .int .i64 0]]) (by kernel_rfl) ?_
    refine TI.callM (g := 62) (args := [.agg ⟨[.int .i64 p0, .int .i64 p1, .int .i64 p2, .int .i64 p3]⟩]) (v := .tuple ⟨[.agg ⟨[.int .i64 r4.1.1, .int .i64 r4.1.2]⟩, .agg ⟨[.int .i64 r4.2.1, .int .i64 r4.2.2]⟩]⟩) (new := []) (by kernel_rfl) (PureSim.any (C62 p0 p1 p2 p3 r4 h5) (flatL (by kernel_rfl)) (by kernel_rfl) [.dead, .cells 41 [.int .i64 0, .int .i64 0], .cells 41 [.int .i64 0, .int .i64 0]]) [2, 3, 17] [1, 2] (a2 := (st 22 [(2, .pointer (some ⟨1, 0, none⟩)), (3, .pointer (some ⟨2, 0, none⟩)), (17, .tuple ⟨[.agg ⟨[.int .i64 r4.1.1, .int .i64 r4.1.2]⟩, .agg ⟨[.int .i64 r4.2.1, .int .i64 r4.2.2]⟩]⟩)])) (h2 := [.dead, .cells 41 [.int .i64 0, .int .i64 0], .cells 41 [.int .i64 0, .int .i64 0]]) (by kernel_rfl) ?_
    refine TI.run 7 [2, 3, 6, 7] [1, 2, 3, 4] (a2 := (st 22 [(2, .pointer (some ⟨1, 0, none⟩)), (3, .pointer (some ⟨2, 0, none⟩)), (6, .pointer (some ⟨3, 0, none⟩)), (7, .pointer (some ⟨4, 0, none⟩))])) (h2 := [.dead, .cells 41 [.int .i64 0, .int .i64 0], .cells 41 [.int .i64 0, .int .i64 0], .cells 41 [.int .i64 r4.1.1, .int .i64 r4.1.2], .cells 41 [.int .i64 r4.2.1, .int .i64 r4.2.2]]) (by kernel_rfl) ?_
    refine TI.done (by kernel_rfl) ?_
    refine NX.sq ?_
    refine TS.seq' (x := c24.s2.s2.s2.s2.s1) (y := c24.s2.s2.s2.s2.s2) (by kernel_rfl) ?_
    refine TS.draw' (id := 5) (b := true) (ops := c24.s2.s2.s2.s2.s1.rops) (fin := ({ act := (st 22 [(2, .pointer (some ⟨1, 0, none⟩)), (3, .pointer (some ⟨2, 0, none⟩)), (6, .pointer (some ⟨3, 0, none⟩)), (7, .pointer (some ⟨4, 0, none⟩)), (20, .agg ⟨[.int .i64 r4.1.1, .int .i64 r4.1.2]⟩), (21, .agg ⟨[.int .i64 r4.2.1, .int .i64 r4.2.2]⟩)]), heap := [.dead, .cells 41 [.int .i64 r4.1.1, .int .i64 r4.1.2], .cells 41 [.int .i64 0, .int .i64 0], .cells 41 [.int .i64 r4.1.1, .int .i64 r4.1.2], .cells 41 [.int .i64 r4.2.1, .int .i64 r4.2.2]], own := [], upds := [(2, 1)] } : QSt)) (fin2 := ({ act := (st 22 [(2, .pointer (some ⟨1, 0, none⟩)), (3, .pointer (some ⟨2, 0, none⟩)), (6, .pointer (some ⟨3, 0, none⟩)), (7, .pointer (some ⟨4, 0, none⟩)), (20, .agg ⟨[.int .i64 r4.1.1, .int .i64 r4.1.2]⟩), (21, .agg ⟨[.int .i64 r4.2.1, .int .i64 r4.2.2]⟩)]), heap := [.dead, .cells 41 [.int .i64 r4.1.1, .int .i64 r4.1.2], .cells 41 [.int .i64 0, .int .i64 0], .cells 41 [.int .i64 r4.1.1, .int .i64 r4.1.2], .cells 41 [.int .i64 r4.2.1, .int .i64 r4.2.2]], own := [], upds := [(2, 1)] } : QSt)) (a1 := (st 22 [(2, .pointer (some ⟨1, 0, none⟩)), (3, .pointer (some ⟨2, 0, none⟩)), (4, .int .i64 0), (6, .pointer (some ⟨3, 0, none⟩)), (7, .pointer (some ⟨4, 0, none⟩)), (20, .agg ⟨[.int .i64 r4.1.1, .int .i64 r4.1.2]⟩), (21, .agg ⟨[.int .i64 r4.2.1, .int .i64 r4.2.2]⟩)])) (h1 := [.dead, .cells 41 [.int .i64 r4.1.1, .int .i64 r4.1.2], .cells 41 [.int .i64 r4.2.1, .int .i64 r4.2.2], .cells 41 [.int .i64 r4.1.1, .int .i64 r4.1.2], .cells 41 [.int .i64 r4.2.1, .int .i64 r4.2.2]]) (a2 := (st 22 [(2, .pointer (some ⟨1, 0, none⟩)), (3, .pointer (some ⟨2, 0, none⟩)), (4, .int .i64 0)])) (h2 := [.dead, .cells 41 [.int .i64 r4.1.1, .int .i64 r4.1.2], .cells 41 [.int .i64 r4.2.1, .int .i64 r4.2.2], .dead, .dead]) [] (fun e he => by cases he) mixed (by kernel_rfl) rfl 3 (by kernel_rfl) [(2, 1)] ?_ rfl (.inr ⟨?_, (by kernel_rfl)⟩) ?_ [2, 3, 4] [1, 2] (by kernel_rfl) ?_
    · refine QI.run (s1 := ({ act := (st 22 [(2, .pointer (some ⟨1, 0, none⟩)), (3, .pointer (some ⟨2, 0, none⟩)), (6, .pointer (some ⟨3, 0, none⟩)), (7, .pointer (some ⟨4, 0, none⟩)), (20, .agg ⟨[.int .i64 r4.1.1, .int .i64 r4.1.2]⟩), (21, .agg ⟨[.int .i64 r4.2.1, .int .i64 r4.2.2]⟩)]), heap := [.dead, .cells 41 [.int .i64 r4.1.1, .int .i64 r4.1.2], .cells 41 [.int .i64 0, .int .i64 0], .cells 41 [.int .i64 r4.1.1, .int .i64 r4.1.2], .cells 41 [.int .i64 r4.2.1, .int .i64 r4.2.2]], own := [], upds := [(2, 1)] } : QSt)) 3 (by kernel_rfl) (by kernel_rfl) ?_
      exact QI.done (by kernel_rfl)
    · refine QI.run (s1 := ({ act := (st 22 [(2, .pointer (some ⟨1, 0, none⟩)), (3, .pointer (some ⟨2, 0, none⟩)), (6, .pointer (some ⟨3, 0, none⟩)), (7, .pointer (some ⟨4, 0, none⟩)), (20, .agg ⟨[.int .i64 r4.1.1, .int .i64 r4.1.2]⟩), (21, .agg ⟨[.int .i64 r4.2.1, .int .i64 r4.2.2]⟩)]), heap := [.dead, .cells 41 [.int .i64 r4.1.1, .int .i64 r4.1.2], .cells 41 [.int .i64 0, .int .i64 0], .cells 41 [.int .i64 r4.1.1, .int .i64 r4.1.2], .cells 41 [.int .i64 r4.2.1, .int .i64 r4.2.2]], own := [], upds := [(2, 1)] } : QSt)) 3 (by kernel_rfl) (by kernel_rfl) ?_
      exact QI.done (by kernel_rfl)
    · refine SI.run (a2 := (st 22 [(2, .pointer (some ⟨1, 0, none⟩)), (3, .pointer (some ⟨2, 0, none⟩)), (4, .int .i64 0), (6, .pointer (some ⟨3, 0, none⟩)), (7, .pointer (some ⟨4, 0, none⟩)), (20, .agg ⟨[.int .i64 r4.1.1, .int .i64 r4.1.2]⟩), (21, .agg ⟨[.int .i64 r4.2.1, .int .i64 r4.2.2]⟩)])) (h2 := [.dead, .cells 41 [.int .i64 r4.1.1, .int .i64 r4.1.2], .cells 41 [.int .i64 r4.2.1, .int .i64 r4.2.2], .cells 41 [.int .i64 r4.1.1, .int .i64 r4.1.2], .cells 41 [.int .i64 r4.2.1, .int .i64 r4.2.2]]) 2 (by kernel_rfl) ?_
      exact SI.done (by kernel_rfl)
    refine TS.ret' (by kernel_rfl) ?_
    have hF := Option.some.inj hF
    subst hF
    exact ⟨.inr rfl, rfl, .tuple ⟨[.agg ⟨[.int .i64 r4.1.1, .int .i64 r4.1.2]⟩, .agg ⟨[.int .i64 r4.2.1, .int .i64 r4.2.2]⟩, .int .i64 0]⟩, by kernel_rfl, WkV.flat0 (by kernel_rfl) (Nat.le_of_ble_eq_true rfl)⟩
theorem C24 (p0 : Int) (p1 : Int) (p2 : Int) (p3 : Int) (r : ((Int × Int) × (Int × Int) × Int)) (hF : F24 p0 p1 p2 p3 = some r) : PureSim Try.prog 24 [.agg ⟨[.int .i64 p0, .int .i64 p1, .int .i64 p2, .int .i64 p3]⟩] [] (V24 0 r) (N24 0 r) :=
  PureSim.of_Fin Try.func24 (c := c24) (by kernel_rfl) (by kernel_rfl) 0 rfl [0] [] (by kernel_rfl) (B24 p0 p1 p2 p3 r hF)

-- agonic/magnet.Shortest
noncomputable def c25 : Code := Try.f25.code
def F25 (p0 : Int) (p1 : Int) (p2 : Int) (p3 : Int) : Option (Int × Int) :=
  F20 p0 p1 p2 p3 >>= fun r1 =>
  if r1 != 0 then
    some (0, r1)
  else
    F61 p0 p1 p2 p3 >>= fun r4 =>
    F63 r4.1.1.1 r4.1.1.2 >>= fun r6 =>
    some (r6, 0)
def V25 (b : Nat) (r : (Int × Int)) : Value := .tuple ⟨[.int .i64 r.1, .int .i64 r.2]⟩
def N25 (b : Nat) (r : (Int × Int)) : List Blk := []
theorem B25 (p0 : Int) (p1 : Int) (p2 : Int) (p3 : Int) (r : (Int × Int)) (hF : F25 p0 p1 p2 p3 = some r) : TS Try.prog 0 0 c25 (st 15 [(0, .agg ⟨[.int .i64 p0, .int .i64 p1, .int .i64 p2, .int .i64 p3]⟩)]) [] (NX Try.prog 0 0 [] (FinP Try.prog Try.f25 0 (V25 0 r) (N25 0 r))) := by
  unfold F25 at hF
  refine TS.seq' (x := c25.s1) (y := c25.s2) (by kernel_rfl) ?_
  refine TS.region' (id := 0) (b := false) (ops := c25.s1.rops) (by kernel_rfl) rfl ?_
  refine TI.run 3 [1] [0] (a2 := (st 15 [(1, .pointer (some ⟨0, 0, none⟩))])) (h2 := [.cells 25 [.int .i64 p0, .int .i64 p1, .int .i64 p2, .int .i64 p3]]) (by kernel_rfl) ?_
  refine TI.done (by kernel_rfl) ?_
  refine NX.sq ?_
  refine TS.seq' (x := c25.s2.s1) (y := c25.s2.s2) (by kernel_rfl) ?_
  refine TS.seq' (x := c25.s2.s1.s1) (y := c25.s2.s1.s2) (by kernel_rfl) ?_
  have hX := of_do hF
  clear hF
  obtain ⟨r1, h2, hF⟩ := hX
  refine TS.region' (id := 1) (b := false) (ops := c25.s2.s1.s1.rops) (by kernel_rfl) rfl ?_
  refine TI.run 1 [1, 5] [0] (a2 := (st 15 [(1, .pointer (some ⟨0, 0, none⟩)), (5, .agg ⟨[.int .i64 p0, .int .i64 p1, .int .i64 p2, .int .i64 p3]⟩)])) (h2 := [.cells 25 [.int .i64 p0, .int .i64 p1, .int .i64 p2, .int .i64 p3]]) (by kernel_rfl) ?_
  refine TI.callM (g := 20) (args := [.agg ⟨[.int .i64 p0, .int .i64 p1, .int .i64 p2, .int .i64 p3]⟩]) (v := .int .i64 r1) (new := []) (by kernel_rfl) (PureSim.any (C20 p0 p1 p2 p3 r1 h2) (flatL (by kernel_rfl)) (by kernel_rfl) [.cells 25 [.int .i64 p0, .int .i64 p1, .int .i64 p2, .int .i64 p3]]) [1, 6] [0] (a2 := (st 15 [(1, .pointer (some ⟨0, 0, none⟩)), (6, .int .i64 r1)])) (h2 := [.cells 25 [.int .i64 p0, .int .i64 p1, .int .i64 p2, .int .i64 p3]]) (by kernel_rfl) ?_
  refine TI.run 1 [1, 4] [0] (a2 := (st 15 [(1, .pointer (some ⟨0, 0, none⟩)), (4, .int .i64 r1)])) (h2 := [.cells 25 [.int .i64 p0, .int .i64 p1, .int .i64 p2, .int .i64 p3]]) (by kernel_rfl) ?_
  refine TI.done (by kernel_rfl) ?_
  refine NX.sq ?_
  refine TS.seq' (x := c25.s2.s1.s2.s1) (y := c25.s2.s1.s2.s2) (by kernel_rfl) ?_
  refine TS.region' (id := 2) (b := false) (ops := c25.s2.s1.s2.s1.rops) (by kernel_rfl) rfl ?_
  refine TI.run 2 [1, 4, 8] [0] (a2 := (st 15 [(1, .pointer (some ⟨0, 0, none⟩)), (4, .int .i64 r1), (8, .bool (r1 != 0))])) (h2 := [.cells 25 [.int .i64 p0, .int .i64 p1, .int .i64 p2, .int .i64 p3]]) (by kernel_rfl) ?_
  refine TI.done (by kernel_rfl) ?_
  refine NX.sq ?_
  refine TS.cond' (o := (.tmp 8)) (x := c25.s2.s1.s2.s2.th) (y := c25.s2.s1.s2.s2.el) (b := r1 != 0) (by kernel_rfl) (by kernel_rfl) (fun hc3 => ?_) (fun hc3 => ?_)
  · replace hF := of_pos hF hc3
    refine TS.seq' (x := c25.s2.s1.s2.s2.th.s1) (y := c25.s2.s1.s2.s2.th.s2) (by kernel_rfl) ?_
    refine TS.region' (id := 3) (b := false) (ops := c25.s2.s1.s2.s2.th.s1.rops) (by kernel_rfl) rfl ?_
    refine TI.run 3 [2, 3] [] (a2 := (st 15 [(2, .int .i64 0), (3, .int .i64 r1)])) (h2 := [.dead]) (by kernel_rfl) ?_
    refine TI.done (by kernel_rfl) ?_
    refine NX.sq ?_
    refine TS.ret' (by kernel_rfl) ?_
    refine NX.sqR ?_
    have hF := Option.some.inj hF
    subst hF
    exact ⟨.inr rfl, rfl, .tuple ⟨[.int .i64 0, .int .i64 r1]⟩, by kernel_rfl, WkV.flat0 (by kernel_rfl) (Nat.le_of_ble_eq_true rfl)⟩
  · replace hF := of_neg hF hc3
    refine TS.skip' (by kernel_rfl) ?_
    refine NX.sq ?_
    refine TS.seq' (x := c25.s2.s2.s1) (y := c25.s2.s2.s2) (by kernel_rfl) ?_
    have hX := of_do hF
    clear hF
    obtain ⟨r4, h5, hF⟩ := hX
    have hX := of_do hF
    clear hF
    obtain ⟨r6, h7, hF⟩ := hX
    refine TS.region' (id := 4) (b := false) (ops := c25.s2.s2.s1.rops) (by kernel_rfl) rfl ?_
    refine TI.run 1 [10] [] (a2 := (st 15 [(10, .agg ⟨[.int .i64 p0, .int .i64 p1, .int .i64 p2, .int .i64 p3]⟩)])) (h2 := [.dead]) (by kernel_rfl) ?_
    refine TI.callM (g := 61) (args := [.agg ⟨[.int .i64 p0, .int .i64 p1, .int .i64 p2, .int .i64 p3]⟩]) (v := .agg ⟨[.int .i64 r4.1.1.1, .int .i64 r4.1.1.2, .int .i64 r4.1.2.1, .int .i64 r4.1.2.2, .int .i64 r4.2.1.1, .int .i64 r4.2.1.2, .int .i64 r4.2.2.1, .int .i64 r4.2.2.2]⟩) (new := []) (by kernel_rfl) (PureSim.any (C61 p0 p1 p2 p3 r4 h5) (flatL (by kernel_rfl)) (by kernel_rfl) [.dead]) [11] [] (a2 := (st 15 [(11, .agg ⟨[.int .i64 r4.1.1.1, .int .i64 r4.1.1.2, .int .i64 r4.1.2.1, .int .i64 r4.1.2.2, .int .i64 r4.2.1.1, .int .i64 r4.2.1.2, .int .i64 r4.2.2.1, .int .i64 r4.2.2.2]⟩)])) (h2 := [.dead]) (by kernel_rfl) ?_
    refine TI.run 2 [13] [] (a2 := (st 15 [(13, .agg ⟨[.int .i64 r4.1.1.1, .int .i64 r4.1.1.2]⟩)])) (h2 := [.dead]) (by kernel_rfl) ?_
    refine TI.callM (g := 63) (args := [.agg ⟨[.int .i64 r4.1.1.1, .int .i64 r4.1.1.2]⟩]) (v := .int .i64 r6) (new := []) (by kernel_rfl) (PureSim.any (C63 r4.1.1.1 r4.1.1.2 r6 h7) (flatL (by kernel_rfl)) (by kernel_rfl) [.dead]) [14] [] (a2 := (st 15 [(14, .int .i64 r6)])) (h2 := [.dead]) (by kernel_rfl) ?_
    refine TI.run 2 [2, 3] [] (a2 := (st 15 [(2, .int .i64 r6), (3, .int .i64 0)])) (h2 := [.dead]) (by kernel_rfl) ?_
    refine TI.done (by kernel_rfl) ?_
    refine NX.sq ?_
    refine TS.ret' (by kernel_rfl) ?_
    have hF := Option.some.inj hF
    subst hF
    exact ⟨.inr rfl, rfl, .tuple ⟨[.int .i64 r6, .int .i64 0]⟩, by kernel_rfl, WkV.flat0 (by kernel_rfl) (Nat.le_of_ble_eq_true rfl)⟩
theorem C25 (p0 : Int) (p1 : Int) (p2 : Int) (p3 : Int) (r : (Int × Int)) (hF : F25 p0 p1 p2 p3 = some r) : PureSim Try.prog 25 [.agg ⟨[.int .i64 p0, .int .i64 p1, .int .i64 p2, .int .i64 p3]⟩] [] (V25 0 r) (N25 0 r) :=
  PureSim.of_Fin Try.func25 (c := c25) (by kernel_rfl) (by kernel_rfl) 0 rfl [0] [] (by kernel_rfl) (B25 p0 p1 p2 p3 r hF)

-- agonic/agonicref06.Shortest
noncomputable def c26 : Code := Try.f26.code
def F26 (p0 : Int) (p1 : Int) (p2 : Int) (p3 : Int) : Option (Int × Int) :=
  F21 p0 p1 p2 p3 >>= fun r1 =>
  if r1 != 0 then
    some (0, r1)
  else
    F62 p0 p1 p2 p3 >>= fun r4 =>
    F57 p0 p1 p2 p3 r4.1.1 r4.1.2 >>= fun r6 =>
    F57 p0 p1 p2 p3 r4.1.1 r4.1.2 >>= fun r8 =>
    F64 r6.1 r6.2 r8.1 r8.2 >>= fun r10 =>
    some (r10, 0)
def V26 (b : Nat) (r : (Int × Int)) : Value := .tuple ⟨[.int .i64 r.1, .int .i64 r.2]⟩
def N26 (b : Nat) (r : (Int × Int)) : List Blk := []
theorem B26 (p0 : Int) (p1 : Int) (p2 : Int) (p3 : Int) (r : (Int × Int)) (hF : F26 p0 p1 p2 p3 = some r) : TS Try.prog 0 0 c26 (st 24 [(0, .agg ⟨[.int .i64 p0, .int .i64 p1, .int .i64 p2, .int .i64 p3]⟩)]) [] (NX Try.prog 0 0 [] (FinP Try.prog Try.f26 0 (V26 0 r) (N26 0 r))) := by
  unfold F26 at hF
  refine TS.seq' (x := c26.s1) (y := c26.s2) (by kernel_rfl) ?_
  refine TS.region' (id := 0) (b := false) (ops := c26.s1.rops) (by kernel_rfl) rfl ?_
  refine TI.run 3 [1] [0] (a2 := (st 24 [(1, .pointer (some ⟨0, 0, none⟩))])) (h2 := [.cells 30 [.int .i64 p0, .int .i64 p1, .int .i64 p2, .int .i64 p3]]) (by kernel_rfl) ?_
  refine TI.done (by kernel_rfl) ?_
  refine NX.sq ?_
  refine TS.seq' (x := c26.s2.s1) (y := c26.s2.s2) (by kernel_rfl) ?_
  have hX := of_do hF
  clear hF
  obtain ⟨r1, h2, hF⟩ := hX
  refine TS.region' (id := 1) (b := false) (ops := c26.s2.s1.rops) (by kernel_rfl) rfl ?_
  refine TI.run 1 [1, 7] [0] (a2 := (st 24 [(1, .pointer (some ⟨0, 0, none⟩)), (7, .agg ⟨[.int .i64 p0, .int .i64 p1, .int .i64 p2, .int .i64 p3]⟩)])) (h2 := [.cells 30 [.int .i64 p0, .int .i64 p1, .int .i64 p2, .int .i64 p3]]) (by kernel_rfl) ?_
  refine TI.callM (g := 21) (args := [.agg ⟨[.int .i64 p0, .int .i64 p1, .int .i64 p2, .int .i64 p3]⟩]) (v := .int .i64 r1) (new := []) (by kernel_rfl) (PureSim.any (C21 p0 p1 p2 p3 r1 h2) (flatL (by kernel_rfl)) (by kernel_rfl) [.cells 30 [.int .i64 p0, .int .i64 p1, .int .i64 p2, .int .i64 p3]]) [1, 8] [0] (a2 := (st 24 [(1, .pointer (some ⟨0, 0, none⟩)), (8, .int .i64 r1)])) (h2 := [.cells 30 [.int .i64 p0, .int .i64 p1, .int .i64 p2, .int .i64 p3]]) (by kernel_rfl) ?_
  refine TI.run 1 [1, 4] [0] (a2 := (st 24 [(1, .pointer (some ⟨0, 0, none⟩)), (4, .int .i64 r1)])) (h2 := [.cells 30 [.int .i64 p0, .int .i64 p1, .int .i64 p2, .int .i64 p3]]) (by kernel_rfl) ?_
  refine TI.done (by kernel_rfl) ?_
  refine NX.sq ?_
  refine TS.seq' (x := c26.s2.s2.s1) (y := c26.s2.s2.s2) (by kernel_rfl) ?_
  refine TS.seq' (x := c26.s2.s2.s1.s1) (y := c26.s2.s2.s1.s2) (by kernel_rfl) ?_
  refine TS.region' (id := 2) (b := false) (ops := c26.s2.s2.s1.s1.rops) (by kernel_rfl) rfl ?_
  refine TI.run 2 [1, 4, 10] [0] (a2 := (st 24 [(1, .pointer (some ⟨0, 0, none⟩)), (4, .int .i64 r1), (10, .bool (r1 != 0))])) (h2 := [.cells 30 [.int .i64 p0, .int .i64 p1, .int .i64 p2, .int .i64 p3]]) (by kernel_rfl) ?_
  refine TI.done (by kernel_rfl) ?_
  refine NX.sq ?_
  refine TS.cond' (o := (.tmp 10)) (x := c26.s2.s2.s1.s2.th) (y := c26.s2.s2.s1.s2.el) (b := r1 != 0) (by kernel_rfl) (by kernel_rfl) (fun hc3 => ?_) (fun hc3 => ?_)
  · replace hF := of_pos hF hc3
    refine TS.seq' (x := c26.s2.s2.s1.s2.th.s1) (y := c26.s2.s2.s1.s2.th.s2) (by kernel_rfl) ?_
    refine TS.region' (id := 3) (b := false) (ops := c26.s2.s2.s1.s2.th.s1.rops) (by kernel_rfl) rfl ?_
    refine TI.run 3 [2, 3] [] (a2 := (st 24 [(2, .int .i64 0), (3, .int .i64 r1)])) (h2 := [.dead]) (by kernel_rfl) ?_
    refine TI.done (by kernel_rfl) ?_
    refine NX.sq ?_
    refine TS.ret' (by kernel_rfl) ?_
    refine NX.sqR ?_
    have hF := Option.some.inj hF
    subst hF
    exact ⟨.inr rfl, rfl, .tuple ⟨[.int .i64 0, .int .i64 r1]⟩, by kernel_rfl, WkV.flat0 (by kernel_rfl) (Nat.le_of_ble_eq_true rfl)⟩
  · replace hF := of_neg hF hc3
    refine TS.skip' (by kernel_rfl) ?_
    refine NX.sq ?_
    refine TS.seq' (x := c26.s2.s2.s2.s1) (y := c26.s2.s2.s2.s2) (by kernel_rfl) ?_
    have hX := of_do hF
    clear hF
    obtain ⟨r4, h5, hF⟩ := hX
    refine TS.region' (id := 4) (b := false) (ops := c26.s2.s2.s2.s1.rops) (by kernel_rfl) rfl ?_
    refine TI.run 1 [1, 13] [0] (a2 := (st 24 [(1, .pointer (some ⟨0, 0, none⟩)), (13, .agg ⟨[.int .i64 p0, .int .i64 p1, .int .i64 p2, .int .i64 p3]⟩)])) (h2 := [.cells 30 [.int .i64 p0, .int .i64 p1, .int .i64 p2, .int .i64 p3]]) (by kernel_rfl) ?_
    refine TI.callM (g := 62) (args := [.agg ⟨[.int .i64 p0, .int .i64 p1, .int .i64 p2, .int .i64 p3]⟩]) (v := .tuple ⟨[.agg ⟨[.int .i64 r4.1.1, .int .i64 r4.1.2]⟩, .agg ⟨[.int .i64 r4.2.1, .int .i64 r4.2.2]⟩]⟩) (new := []) (by kernel_rfl) (PureSim.any (C62 p0 p1 p2 p3 r4 h5) (flatL (by kernel_rfl)) (by kernel_rfl) [.cells 30 [.int .i64 p0, .int .i64 p1, .int .i64 p2, .int .i64 p3]]) [1, 14] [0] (a2 := (st 24 [(1, .pointer (some ⟨0, 0, none⟩)), (14, .tuple ⟨[.agg ⟨[.int .i64 r4.1.1, .int .i64 r4.1.2]⟩, .agg ⟨[.int .i64 r4.2.1, .int .i64 r4.2.2]⟩]⟩)])) (h2 := [.cells 30 [.int .i64 p0, .int .i64 p1, .int .i64 p2, .int .i64 p3]]) (by kernel_rfl) ?_
    refine TI.run 7 [1, 5] [0, 1] (a2 := (st 24 [(1, .pointer (some ⟨0, 0, none⟩)), (5, .pointer (some ⟨1, 0, none⟩))])) (h2 := [.cells 30 [.int .i64 p0, .int .i64 p1, .int .i64 p2, .int .i64 p3], .cells 41 [.int .i64 r4.1.1, .int .i64 r4.1.2], .dead]) (by kernel_rfl) ?_
    refine TI.done (by kernel_rfl) ?_
    refine NX.sq ?_
    refine TS.seq' (x := c26.s2.s2.s2.s2.s1) (y := c26.s2.s2.s2.s2.s2) (by kernel_rfl) ?_
    have hX := of_do hF
    clear hF
    obtain ⟨r6, h7, hF⟩ := hX
    have hX := of_do hF
    clear hF
    obtain ⟨r8, h9, hF⟩ := hX
    have hX := of_do hF
    clear hF
    obtain ⟨r10, h11, hF⟩ := hX
    have hT : ∀ e ∈ ([⟨57, [.agg ⟨[.int .i64 p0, .int .i64 p1, .int .i64 p2, .int .i64 p3]⟩, .agg ⟨[.int .i64 r4.1.1, .int .i64 r4.1.2]⟩], [.cells 30 [.int .i64 p0, .int .i64 p1, .int .i64 p2, .int .i64 p3], .cells 41 [.int .i64 r4.1.1, .int .i64 r4.1.2], .dead], .agg ⟨[.int .i64 r6.1, .int .i64 r6.2]⟩, []⟩, ⟨57, [.agg ⟨[.int .i64 p0, .int .i64 p1, .int .i64 p2, .int .i64 p3]⟩, .agg ⟨[.int .i64 r4.1.1, .int .i64 r4.1.2]⟩], [.cells 30 [.int .i64 p0, .int .i64 p1, .int .i64 p2, .int .i64 p3], .cells 41 [.int .i64 r4.1.1, .int .i64 r4.1.2], .dead], .agg ⟨[.int .i64 r8.1, .int .i64 r8.2]⟩, []⟩, ⟨64, [.agg ⟨[.int .i64 r6.1, .int .i64 r6.2]⟩, .agg ⟨[.int .i64 r8.1, .int .i64 r8.2]⟩], [.cells 30 [.int .i64 p0, .int .i64 p1, .int .i64 p2, .int .i64 p3], .cells 41 [.int .i64 r4.1.1, .int .i64 r4.1.2], .dead], .int .i64 r10, []⟩] : List Entry), PureSim Try.prog e.g e.args e.h e.v e.new := by
      intro e he
      simp only [List.mem_cons, List.not_mem_nil, or_false] at he
      rcases he with rfl | rfl | rfl
      · exact (PureSim.any (C57 p0 p1 p2 p3 r4.1.1 r4.1.2 r6 h7) (flatL (by kernel_rfl)) (by kernel_rfl) [.cells 30 [.int .i64 p0, .int .i64 p1, .int .i64 p2, .int .i64 p3], .cells 41 [.int .i64 r4.1.1, .int .i64 r4.1.2], .dead])
      · exact (PureSim.any (C57 p0 p1 p2 p3 r4.1.1 r4.1.2 r8 h9) (flatL (by kernel_rfl)) (by kernel_rfl) [.cells 30 [.int .i64 p0, .int .i64 p1, .int .i64 p2, .int .i64 p3], .cells 41 [.int .i64 r4.1.1, .int .i64 r4.1.2], .dead])
      · exact (PureSim.any (C64 r6.1 r6.2 r8.1 r8.2 r10 h11) (flatL (by kernel_rfl)) (by kernel_rfl) [.cells 30 [.int .i64 p0, .int .i64 p1, .int .i64 p2, .int .i64 p3], .cells 41 [.int .i64 r4.1.1, .int .i64 r4.1.2], .dead])
    refine TS.draw' (id := 5) (b := true) (ops := c26.s2.s2.s2.s2.s1.rops) (fin := ({ act := (st 24 [(1, .pointer (some ⟨0, 0, none⟩)), (5, .pointer (some ⟨1, 0, none⟩)), (17, .agg ⟨[.int .i64 p0, .int .i64 p1, .int .i64 p2, .int .i64 p3]⟩), (18, .agg ⟨[.int .i64 r4.1.1, .int .i64 r4.1.2]⟩), (19, .agg ⟨[.int .i64 r6.1, .int .i64 r6.2]⟩), (20, .agg ⟨[.int .i64 p0, .int .i64 p1, .int .i64 p2, .int .i64 p3]⟩), (21, .agg ⟨[.int .i64 r4.1.1, .int .i64 r4.1.2]⟩)]), heap := [.cells 30 [.int .i64 p0, .int .i64 p1, .int .i64 p2, .int .i64 p3], .cells 41 [.int .i64 r4.1.1, .int .i64 r4.1.2], .dead], own := [], upds := [] } : QSt)) (fin2 := ({ act := (st 24 [(1, .pointer (some ⟨0, 0, none⟩)), (5, .pointer (some ⟨1, 0, none⟩)), (17, .agg ⟨[.int .i64 p0, .int .i64 p1, .int .i64 p2, .int .i64 p3]⟩), (18, .agg ⟨[.int .i64 r4.1.1, .int .i64 r4.1.2]⟩), (19, .agg ⟨[.int .i64 r6.1, .int .i64 r6.2]⟩), (20, .agg ⟨[.int .i64 p0, .int .i64 p1, .int .i64 p2, .int .i64 p3]⟩), (21, .agg ⟨[.int .i64 r4.1.1, .int .i64 r4.1.2]⟩)]), heap := [.cells 30 [.int .i64 p0, .int .i64 p1, .int .i64 p2, .int .i64 p3], .cells 41 [.int .i64 r4.1.1, .int .i64 r4.1.2], .dead], own := [], upds := [] } : QSt)) (a1 := (st 24 [(1, .pointer (some ⟨0, 0, none⟩)), (2, .int .i64 r10), (3, .int .i64 0), (5, .pointer (some ⟨1, 0, none⟩)), (17, .agg ⟨[.int .i64 p0, .int .i64 p1, .int .i64 p2, .int .i64 p3]⟩), (18, .agg ⟨[.int .i64 r4.1.1, .int .i64 r4.1.2]⟩), (19, .agg ⟨[.int .i64 r6.1, .int .i64 r6.2]⟩), (20, .agg ⟨[.int .i64 p0, .int .i64 p1, .int .i64 p2, .int .i64 p3]⟩), (21, .agg ⟨[.int .i64 r4.1.1, .int .i64 r4.1.2]⟩), (22, .agg ⟨[.int .i64 r8.1, .int .i64 r8.2]⟩), (23, .int .i64 r10)])) (h1 := [.cells 30 [.int .i64 p0, .int .i64 p1, .int .i64 p2, .int .i64 p3], .cells 41 [.int .i64 r4.1.1, .int .i64 r4.1.2], .dead]) (a2 := (st 24 [(2, .int .i64 r10), (3, .int .i64 0)])) (h2 := [.dead, .dead, .dead]) [⟨57, [.agg ⟨[.int .i64 p0, .int .i64 p1, .int .i64 p2, .int .i64 p3]⟩, .agg ⟨[.int .i64 r4.1.1, .int .i64 r4.1.2]⟩], [.cells 30 [.int .i64 p0, .int .i64 p1, .int .i64 p2, .int .i64 p3], .cells 41 [.int .i64 r4.1.1, .int .i64 r4.1.2], .dead], .agg ⟨[.int .i64 r6.1, .int .i64 r6.2]⟩, []⟩, ⟨57, [.agg ⟨[.int .i64 p0, .int .i64 p1, .int .i64 p2, .int .i64 p3]⟩, .agg ⟨[.int .i64 r4.1.1, .int .i64 r4.1.2]⟩], [.cells 30 [.int .i64 p0, .int .i64 p1, .int .i64 p2, .int .i64 p3], .cells 41 [.int .i64 r4.1.1, .int .i64 r4.1.2], .dead], .agg ⟨[.int .i64 r8.1, .int .i64 r8.2]⟩, []⟩, ⟨64, [.agg ⟨[.int .i64 r6.1, .int .i64 r6.2]⟩, .agg ⟨[.int .i64 r8.1, .int .i64 r8.2]⟩], [.cells 30 [.int .i64 p0, .int .i64 p1, .int .i64 p2, .int .i64 p3], .cells 41 [.int .i64 r4.1.1, .int .i64 r4.1.2], .dead], .int .i64 r10, []⟩] hT mixed (by kernel_rfl) rfl 5 (by kernel_rfl) [] ?_ rfl (.inl ⟨rfl, rfl⟩) ?_ [2, 3] [] (by kernel_rfl) ?_
    · refine QI.run (s1 := ({ act := (st 24 [(1, .pointer (some ⟨0, 0, none⟩)), (5, .pointer (some ⟨1, 0, none⟩)), (17, .agg ⟨[.int .i64 p0, .int .i64 p1, .int .i64 p2, .int .i64 p3]⟩), (18, .agg ⟨[.int .i64 r4.1.1, .int .i64 r4.1.2]⟩)]), heap := [.cells 30 [.int .i64 p0, .int .i64 p1, .int .i64 p2, .int .i64 p3], .cells 41 [.int .i64 r4.1.1, .int .i64 r4.1.2], .dead], own := [], upds := [] } : QSt)) 2 (by kernel_rfl) (by kernel_rfl) ?_
      refine QI.op (q := { val := .agg ⟨[.int .i64 r6.1, .int .i64 r6.2]⟩, new := [] }) (s1 := ({ act := (st 24 [(1, .pointer (some ⟨0, 0, none⟩)), (5, .pointer (some ⟨1, 0, none⟩)), (17, .agg ⟨[.int .i64 p0, .int .i64 p1, .int .i64 p2, .int .i64 p3]⟩), (18, .agg ⟨[.int .i64 r4.1.1, .int .i64 r4.1.2]⟩), (19, .agg ⟨[.int .i64 r6.1, .int .i64 r6.2]⟩)]), heap := [.cells 30 [.int .i64 p0, .int .i64 p1, .int .i64 p2, .int .i64 p3], .cells 41 [.int .i64 r4.1.1, .int .i64 r4.1.2], .dead], own := [], upds := [] } : QSt)) (by decide) (qOf_call (g := 57) (args := [.agg ⟨[.int .i64 p0, .int .i64 p1, .int .i64 p2, .int .i64 p3]⟩, .agg ⟨[.int .i64 r4.1.1, .int .i64 r4.1.2]⟩]) (by kernel_rfl) lookC_hit) (by kernel_rfl) ?_
      refine QI.run (s1 := ({ act := (st 24 [(1, .pointer (some ⟨0, 0, none⟩)), (5, .pointer (some ⟨1, 0, none⟩)), (17, .agg ⟨[.int .i64 p0, .int .i64 p1, .int .i64 p2, .int .i64 p3]⟩), (18, .agg ⟨[.int .i64 r4.1.1, .int .i64 r4.1.2]⟩), (19, .agg ⟨[.int .i64 r6.1, .int .i64 r6.2]⟩), (20, .agg ⟨[.int .i64 p0, .int .i64 p1, .int .i64 p2, .int .i64 p3]⟩), (21, .agg ⟨[.int .i64 r4.1.1, .int .i64 r4.1.2]⟩)]), heap := [.cells 30 [.int .i64 p0, .int .i64 p1, .int .i64 p2, .int .i64 p3], .cells 41 [.int .i64 r4.1.1, .int .i64 r4.1.2], .dead], own := [], upds := [] } : QSt)) 2 (by kernel_rfl) (by kernel_rfl) ?_
      exact QI.done (by kernel_rfl)
    · refine SI.op (q := { val := .agg ⟨[.int .i64 r8.1, .int .i64 r8.2]⟩, new := [] }) (a2 := (st 24 [(1, .pointer (some ⟨0, 0, none⟩)), (5, .pointer (some ⟨1, 0, none⟩)), (17, .agg ⟨[.int .i64 p0, .int .i64 p1, .int .i64 p2, .int .i64 p3]⟩), (18, .agg ⟨[.int .i64 r4.1.1, .int .i64 r4.1.2]⟩), (19, .agg ⟨[.int .i64 r6.1, .int .i64 r6.2]⟩), (20, .agg ⟨[.int .i64 p0, .int .i64 p1, .int .i64 p2, .int .i64 p3]⟩), (21, .agg ⟨[.int .i64 r4.1.1, .int .i64 r4.1.2]⟩), (22, .agg ⟨[.int .i64 r8.1, .int .i64 r8.2]⟩)])) (h2 := [.cells 30 [.int .i64 p0, .int .i64 p1, .int .i64 p2, .int .i64 p3], .cells 41 [.int .i64 r4.1.1, .int .i64 r4.1.2], .dead]) (by kernel_rfl) (qOf_call (g := 57) (args := [.agg ⟨[.int .i64 p0, .int .i64 p1, .int .i64 p2, .int .i64 p3]⟩, .agg ⟨[.int .i64 r4.1.1, .int .i64 r4.1.2]⟩]) (by kernel_rfl) (lookC_skip (by intro _ ha _; have hq := h7; have hi := h9; clear hF; first | (exfalso; simp at ha; done) | ((try simp at ha); have hr := Option.some.inj (hq.symm.trans (Eq.trans (by first | rfl | (congr 1 <;> first | rfl | omega | simp_all)) hi)); subst hr; rfl)) lookC_hit)) (by kernel_rfl) (by kernel_rfl) ?_
      refine SI.op (q := { val := .int .i64 r10, new := [] }) (a2 := (st 24 [(1, .pointer (some ⟨0, 0, none⟩)), (5, .pointer (some ⟨1, 0, none⟩)), (17, .agg ⟨[.int .i64 p0, .int .i64 p1, .int .i64 p2, .int .i64 p3]⟩), (18, .agg ⟨[.int .i64 r4.1.1, .int .i64 r4.1.2]⟩), (19, .agg ⟨[.int .i64 r6.1, .int .i64 r6.2]⟩), (20, .agg ⟨[.int .i64 p0, .int .i64 p1, .int .i64 p2, .int .i64 p3]⟩), (21, .agg ⟨[.int .i64 r4.1.1, .int .i64 r4.1.2]⟩), (22, .agg ⟨[.int .i64 r8.1, .int .i64 r8.2]⟩), (23, .int .i64 r10)])) (h2 := [.cells 30 [.int .i64 p0, .int .i64 p1, .int .i64 p2, .int .i64 p3], .cells 41 [.int .i64 r4.1.1, .int .i64 r4.1.2], .dead]) (by kernel_rfl) (qOf_call (g := 64) (args := [.agg ⟨[.int .i64 r6.1, .int .i64 r6.2]⟩, .agg ⟨[.int .i64 r8.1, .int .i64 r8.2]⟩]) (by kernel_rfl) (lookC_skip (fun hg => absurd (show (57 : Nat) = 64 from hg) (by decide)) (lookC_skip (fun hg => absurd (show (57 : Nat) = 64 from hg) (by decide)) lookC_hit))) (by kernel_rfl) (by kernel_rfl) ?_
      refine SI.run (a2 := (st 24 [(1, .pointer (some ⟨0, 0, none⟩)), (2, .int .i64 r10), (3, .int .i64 0), (5, .pointer (some ⟨1, 0, none⟩)), (17, .agg ⟨[.int .i64 p0, .int .i64 p1, .int .i64 p2, .int .i64 p3]⟩), (18, .agg ⟨[.int .i64 r4.1.1, .int .i64 r4.1.2]⟩), (19, .agg ⟨[.int .i64 r6.1, .int .i64 r6.2]⟩), (20, .agg ⟨[.int .i64 p0, .int .i64 p1, .int .i64 p2, .int .i64 p3]⟩), (21, .agg ⟨[.int .i64 r4.1.1, .int .i64 r4.1.2]⟩), (22, .agg ⟨[.int .i64 r8.1, .int .i64 r8.2]⟩), (23, .int .i64 r10)])) (h2 := [.cells 30 [.int .i64 p0, .int .i64 p1, .int .i64 p2, .int .i64 p3], .cells 41 [.int .i64 r4.1.1, .int .i64 r4.1.2], .dead]) 2 (by kernel_rfl) ?_
      exact SI.done (by kernel_rfl)
    refine TS.ret' (by kernel_rfl) ?_
    have hF := Option.some.inj hF
    subst hF
    exact ⟨.inr rfl, rfl, .tuple ⟨[.int .i64 r10, .int .i64 0]⟩, by kernel_rfl, WkV.flat0 (by kernel_rfl) (Nat.le_of_ble_eq_true rfl)⟩
theorem C26 (p0 : Int) (p1 : Int) (p2 : Int) (p3 : Int) (r : (Int × Int)) (hF : F26 p0 p1 p2 p3 = some r) : PureSim Try.prog 26 [.agg ⟨[.int .i64 p0, .int .i64 p1, .int .i64 p2, .int .i64 p3]⟩] [] (V26 0 r) (N26 0 r) :=
  PureSim.of_Fin Try.func26 (c := c26) (by kernel_rfl) (by kernel_rfl) 0 rfl [0] [] (by kernel_rfl) (B26 p0 p1 p2 p3 r hF)

-- agonic/agoniclaw06.chosen
noncomputable def c19 : Code := Try.f19.code
def F19 (p0 : Int) (p1 : Int) : Option (Int × Int) :=
  some (p0, p1)
def V19 (b : Nat) (r : (Int × Int)) : Value := .agg ⟨[.int .i64 r.1, .int .i64 r.2]⟩
def N19 (b : Nat) (r : (Int × Int)) : List Blk := []
theorem B19 (p0 : Int) (p1 : Int) (r : (Int × Int)) (hF : F19 p0 p1 = some r) : TS Try.prog 0 0 c19 (st 4 [(0, .agg ⟨[.int .i64 p0, .int .i64 p1]⟩)]) [] (NX Try.prog 0 0 [] (FinP Try.prog Try.f19 0 (V19 0 r) (N19 0 r))) := by
  unfold F19 at hF
  refine TS.seq' (x := c19.s1) (y := c19.s2) (by kernel_rfl) ?_
  refine TS.region' (id := 0) (b := false) (ops := c19.s1.rops) (by kernel_rfl) rfl ?_
  refine TI.run 2 [1, 2] [0, 1] (a2 := (st 4 [(1, .pointer (some ⟨0, 0, none⟩)), (2, .pointer (some ⟨1, 0, none⟩))])) (h2 := [.cells 27 [.int .i64 p0, .int .i64 p1], .cells 41 [.int .i64 0, .int .i64 0]]) (by kernel_rfl) ?_
  refine TI.done (by kernel_rfl) ?_
  refine NX.sq ?_
  refine TS.seq' (x := c19.s2.s1) (y := c19.s2.s2) (by kernel_rfl) ?_
  refine TS.region' (id := 1) (b := false) (ops := c19.s2.s1.rops) (by kernel_rfl) rfl ?_
  refine TI.run 2 [2] [1] (a2 := (st 4 [(2, .pointer (some ⟨1, 0, none⟩))])) (h2 := [.dead, .cells 41 [.int .i64 p0, .int .i64 p1]]) (by kernel_rfl) ?_
  refine TI.done (by kernel_rfl) ?_
  refine NX.sq ?_
  refine TS.ret' (by kernel_rfl) ?_
  have hF := Option.some.inj hF
  subst hF
  exact ⟨.inr rfl, rfl, .agg ⟨[.int .i64 p0, .int .i64 p1]⟩, by kernel_rfl, WkV.flat0 (by kernel_rfl) (Nat.le_of_ble_eq_true rfl)⟩
theorem C19 (p0 : Int) (p1 : Int) (r : (Int × Int)) (hF : F19 p0 p1 = some r) : PureSim Try.prog 19 [.agg ⟨[.int .i64 p0, .int .i64 p1]⟩] [] (V19 0 r) (N19 0 r) :=
  PureSim.of_Fin Try.func19 (c := c19) (by kernel_rfl) (by kernel_rfl) 0 rfl [0] [] (by kernel_rfl) (B19 p0 p1 r hF)

-- agonic/agonicref06.Complete
noncomputable def c27 : Code := Try.f27.code
def F27 (p0 : Int) (p1 : Int) (p2 : Int) (p3 : Int) (p4 : Int) (p5 : Int) (p6 : Int) (p7 : Int) : Option Bool :=
  F57 p0 p1 p2 p3 p4 p5 >>= fun r1 =>
  F57 p0 p1 p2 p3 p6 p7 >>= fun r3 =>
  (
    if (w64 ((w64 (p4 * p7)) - (w64 (p5 * p6)))) == 1 then
      F55 r1.1 r1.2 2000 >>= fun r6 =>
      if r6 then
        F55 r3.1 r3.2 2000 >>= fun r8 =>
        if r8 then
          F51 r1.1 r1.2 r3.1 r3.2 >>= fun r10 =>
          some (r10)
        else
          some (false)
      else
        some (false)
    else
      if (w64 ((w64 (p4 * p7)) - (w64 (p5 * p6)))) == (-1) then
        F55 r1.1 r1.2 2000 >>= fun r13 =>
        if r13 then
          F55 r3.1 r3.2 2000 >>= fun r15 =>
          if r15 then
            F51 r1.1 r1.2 r3.1 r3.2 >>= fun r17 =>
            some (r17)
          else
            some (false)
        else
          some (false)
      else
        some (false)
  : Option Bool) >>= fun m19 =>
  some m19
def V27 (b : Nat) (r : Bool) : Value := .bool r
def N27 (b : Nat) (r : Bool) : List Blk := []
theorem B27 (p0 : Int) (p1 : Int) (p2 : Int) (p3 : Int) (p4 : Int) (p5 : Int) (p6 : Int) (p7 : Int) (r : Bool) (hF : F27 p0 p1 p2 p3 p4 p5 p6 p7 = some r) : TS Try.prog 0 0 c27 (st 47 [(0, .agg ⟨[.int .i64 p0, .int .i64 p1, .int .i64 p2, .int .i64 p3]⟩), (1, .agg ⟨[.int .i64 p4, .int .i64 p5]⟩), (2, .agg ⟨[.int .i64 p6, .int .i64 p7]⟩)]) [] (NX Try.prog 0 0 [] (FinP Try.prog Try.f27 0 (V27 0 r) (N27 0 r))) := by
  unfold F27 at hF
  refine TS.seq' (x := c27.s1) (y := c27.s2) (by kernel_rfl) ?_
  refine TS.region' (id := 0) (b := false) (ops := c27.s1.rops) (by kernel_rfl) rfl ?_
  refine TI.run 4 [3, 4, 5] [0, 1, 2] (a2 := (st 47 [(3, .pointer (some ⟨0, 0, none⟩)), (4, .pointer (some ⟨1, 0, none⟩)), (5, .pointer (some ⟨2, 0, none⟩))])) (h2 := [.cells 30 [.int .i64 p0, .int .i64 p1, .int .i64 p2, .int .i64 p3], .cells 41 [.int .i64 p4, .int .i64 p5], .cells 41 [.int .i64 p6, .int .i64 p7]]) (by kernel_rfl) ?_
  refine TI.done (by kernel_rfl) ?_
  refine NX.sq ?_
  refine TS.seq' (x := c27.s2.s1) (y := c27.s2.s2) (by kernel_rfl) ?_
  refine TS.region' (id := 1) (b := false) (ops := c27.s2.s1.rops) (by kernel_rfl) rfl ?_
  refine TI.run 12 [3, 4, 5, 7] [0, 1, 2] (a2 := (st 47 [(3, .pointer (some ⟨0, 0, none⟩)), (4, .pointer (some ⟨1, 0, none⟩)), (5, .pointer (some ⟨2, 0, none⟩)), (7, .int .i64 (w64 ((w64 (p4 * p7)) - (w64 (p5 * p6)))))])) (h2 := [.cells 30 [.int .i64 p0, .int .i64 p1, .int .i64 p2, .int .i64 p3], .cells 41 [.int .i64 p4, .int .i64 p5], .cells 41 [.int .i64 p6, .int .i64 p7]]) (by kernel_rfl) ?_
  refine TI.done (by kernel_rfl) ?_
  refine NX.sq ?_
  refine TS.seq' (x := c27.s2.s2.s1) (y := c27.s2.s2.s2) (by kernel_rfl) ?_
  have hX := of_do hF
  clear hF
  obtain ⟨r1, h2, hF⟩ := hX
  have hX := of_do hF
  clear hF
  obtain ⟨r3, h4, hF⟩ := hX
  have hT : ∀ e ∈ ([⟨57, [.agg ⟨[.int .i64 p0, .int .i64 p1, .int .i64 p2, .int .i64 p3]⟩, .agg ⟨[.int .i64 p4, .int .i64 p5]⟩], [.cells 30 [.int .i64 p0, .int .i64 p1, .int .i64 p2, .int .i64 p3], .cells 41 [.int .i64 p4, .int .i64 p5], .cells 41 [.int .i64 p6, .int .i64 p7]], .agg ⟨[.int .i64 r1.1, .int .i64 r1.2]⟩, []⟩, ⟨57, [.agg ⟨[.int .i64 p0, .int .i64 p1, .int .i64 p2, .int .i64 p3]⟩, .agg ⟨[.int .i64 p6, .int .i64 p7]⟩], [.cells 30 [.int .i64 p0, .int .i64 p1, .int .i64 p2, .int .i64 p3], .cells 41 [.int .i64 p4, .int .i64 p5], .cells 41 [.int .i64 p6, .int .i64 p7]], .agg ⟨[.int .i64 r3.1, .int .i64 r3.2]⟩, []⟩] : List Entry), PureSim Try.prog e.g e.args e.h e.v e.new := by
    intro e he
    simp only [List.mem_cons, List.not_mem_nil, or_false] at he
    rcases he with rfl | rfl
    · exact (PureSim.any (C57 p0 p1 p2 p3 p4 p5 r1 h2) (flatL (by kernel_rfl)) (by kernel_rfl) [.cells 30 [.int .i64 p0, .int .i64 p1, .int .i64 p2, .int .i64 p3], .cells 41 [.int .i64 p4, .int .i64 p5], .cells 41 [.int .i64 p6, .int .i64 p7]])
    · exact (PureSim.any (C57 p0 p1 p2 p3 p6 p7 r3 h4) (flatL (by kernel_rfl)) (by kernel_rfl) [.cells 30 [.int .i64 p0, .int .i64 p1, .int .i64 p2, .int .i64 p3], .cells 41 [.int .i64 p4, .int .i64 p5], .cells 41 [.int .i64 p6, .int .i64 p7]])
  refine TS.draw' (id := 2) (b := true) (ops := c27.s2.s2.s1.rops) (fin := ({ act := (st 47 [(3, .pointer (some ⟨0, 0, none⟩)), (4, .pointer (some ⟨1, 0, none⟩)), (5, .pointer (some ⟨2, 0, none⟩)), (7, .int .i64 (w64 ((w64 (p4 * p7)) - (w64 (p5 * p6))))), (8, .pointer (some ⟨3, 0, none⟩)), (20, .agg ⟨[.int .i64 p0, .int .i64 p1, .int .i64 p2, .int .i64 p3]⟩), (21, .agg ⟨[.int .i64 p4, .int .i64 p5]⟩), (22, .agg ⟨[.int .i64 r1.1, .int .i64 r1.2]⟩), (23, .agg ⟨[.int .i64 p0, .int .i64 p1, .int .i64 p2, .int .i64 p3]⟩), (24, .agg ⟨[.int .i64 p6, .int .i64 p7]⟩), (25, .agg ⟨[.int .i64 r3.1, .int .i64 r3.2]⟩), (26, .agg ⟨[.int .i64 r1.1, .int .i64 r1.2, .int .i64 r3.1, .int .i64 r3.2]⟩)]), heap := [.cells 30 [.int .i64 p0, .int .i64 p1, .int .i64 p2, .int .i64 p3], .cells 41 [.int .i64 p4, .int .i64 p5], .cells 41 [.int .i64 p6, .int .i64 p7], .cells 30 [.int .i64 0, .int .i64 0, .int .i64 0, .int .i64 0]], own := [(7, 3, 4)], upds := [] } : QSt)) (fin2 := ({ act := (st 47 [(3, .pointer (some ⟨0, 0, none⟩)), (4, .pointer (some ⟨1, 0, none⟩)), (5, .pointer (some ⟨2, 0, none⟩)), (7, .int .i64 (w64 ((w64 (p4 * p7)) - (w64 (p5 * p6))))), (8, .pointer (some ⟨3, 0, none⟩)), (20, .agg ⟨[.int .i64 p0, .int .i64 p1, .int .i64 p2, .int .i64 p3]⟩), (21, .agg ⟨[.int .i64 p4, .int .i64 p5]⟩), (22, .agg ⟨[.int .i64 r1.1, .int .i64 r1.2]⟩), (23, .agg ⟨[.int .i64 p0, .int .i64 p1, .int .i64 p2, .int .i64 p3]⟩), (24, .agg ⟨[.int .i64 p6, .int .i64 p7]⟩), (25, .agg ⟨[.int .i64 r3.1, .int .i64 r3.2]⟩), (26, .agg ⟨[.int .i64 r1.1, .int .i64 r1.2, .int .i64 r3.1, .int .i64 r3.2]⟩)]), heap := [.cells 30 [.int .i64 p0, .int .i64 p1, .int .i64 p2, .int .i64 p3], .cells 41 [.int .i64 p4, .int .i64 p5], .cells 41 [.int .i64 p6, .int .i64 p7], .cells 30 [.int .i64 0, .int .i64 0, .int .i64 0, .int .i64 0]], own := [(7, 3, 4)], upds := [] } : QSt)) (a1 := (st 47 [(3, .pointer (some ⟨0, 0, none⟩)), (4, .pointer (some ⟨1, 0, none⟩)), (5, .pointer (some ⟨2, 0, none⟩)), (7, .int .i64 (w64 ((w64 (p4 * p7)) - (w64 (p5 * p6))))), (8, .pointer (some ⟨3, 0, none⟩)), (20, .agg ⟨[.int .i64 p0, .int .i64 p1, .int .i64 p2, .int .i64 p3]⟩), (21, .agg ⟨[.int .i64 p4, .int .i64 p5]⟩), (22, .agg ⟨[.int .i64 r1.1, .int .i64 r1.2]⟩), (23, .agg ⟨[.int .i64 p0, .int .i64 p1, .int .i64 p2, .int .i64 p3]⟩), (24, .agg ⟨[.int .i64 p6, .int .i64 p7]⟩), (25, .agg ⟨[.int .i64 r3.1, .int .i64 r3.2]⟩), (26, .agg ⟨[.int .i64 r1.1, .int .i64 r1.2, .int .i64 r3.1, .int .i64 r3.2]⟩)])) (h1 := [.cells 30 [.int .i64 p0, .int .i64 p1, .int .i64 p2, .int .i64 p3], .cells 41 [.int .i64 p4, .int .i64 p5], .cells 41 [.int .i64 p6, .int .i64 p7], .cells 30 [.int .i64 r1.1, .int .i64 r1.2, .int .i64 r3.1, .int .i64 r3.2]]) (a2 := (st 47 [(7, .int .i64 (w64 ((w64 (p4 * p7)) - (w64 (p5 * p6))))), (8, .pointer (some ⟨3, 0, none⟩))])) (h2 := [.dead, .dead, .dead, .cells 30 [.int .i64 r1.1, .int .i64 r1.2, .int .i64 r3.1, .int .i64 r3.2]]) [⟨57, [.agg ⟨[.int .i64 p0, .int .i64 p1, .int .i64 p2, .int .i64 p3]⟩, .agg ⟨[.int .i64 p4, .int .i64 p5]⟩], [.cells 30 [.int .i64 p0, .int .i64 p1, .int .i64 p2, .int .i64 p3], .cells 41 [.int .i64 p4, .int .i64 p5], .cells 41 [.int .i64 p6, .int .i64 p7]], .agg ⟨[.int .i64 r1.1, .int .i64 r1.2]⟩, []⟩, ⟨57, [.agg ⟨[.int .i64 p0, .int .i64 p1, .int .i64 p2, .int .i64 p3]⟩, .agg ⟨[.int .i64 p6, .int .i64 p7]⟩], [.cells 30 [.int .i64 p0, .int .i64 p1, .int .i64 p2, .int .i64 p3], .cells 41 [.int .i64 p4, .int .i64 p5], .cells 41 [.int .i64 p6, .int .i64 p7]], .agg ⟨[.int .i64 r3.1, .int .i64 r3.2]⟩, []⟩] hT mixed (by kernel_rfl) rfl 8 (by kernel_rfl) [] ?_ rfl (.inl ⟨rfl, rfl⟩) ?_ [7, 8] [3] (by kernel_rfl) ?_
  · refine QI.run (s1 := ({ act := (st 47 [(3, .pointer (some ⟨0, 0, none⟩)), (4, .pointer (some ⟨1, 0, none⟩)), (5, .pointer (some ⟨2, 0, none⟩)), (7, .int .i64 (w64 ((w64 (p4 * p7)) - (w64 (p5 * p6))))), (20, .agg ⟨[.int .i64 p0, .int .i64 p1, .int .i64 p2, .int .i64 p3]⟩), (21, .agg ⟨[.int .i64 p4, .int .i64 p5]⟩)]), heap := [.cells 30 [.int .i64 p0, .int .i64 p1, .int .i64 p2, .int .i64 p3], .cells 41 [.int .i64 p4, .int .i64 p5], .cells 41 [.int .i64 p6, .int .i64 p7]], own := [], upds := [] } : QSt)) 2 (by kernel_rfl) (by kernel_rfl) ?_
    refine QI.op (q := { val := .agg ⟨[.int .i64 r1.1, .int .i64 r1.2]⟩, new := [] }) (s1 := ({ act := (st 47 [(3, .pointer (some ⟨0, 0, none⟩)), (4, .pointer (some ⟨1, 0, none⟩)), (5, .pointer (some ⟨2, 0, none⟩)), (7, .int .i64 (w64 ((w64 (p4 * p7)) - (w64 (p5 * p6))))), (20, .agg ⟨[.int .i64 p0, .int .i64 p1, .int .i64 p2, .int .i64 p3]⟩), (21, .agg ⟨[.int .i64 p4, .int .i64 p5]⟩), (22, .agg ⟨[.int .i64 r1.1, .int .i64 r1.2]⟩)]), heap := [.cells 30 [.int .i64 p0, .int .i64 p1, .int .i64 p2, .int .i64 p3], .cells 41 [.int .i64 p4, .int .i64 p5], .cells 41 [.int .i64 p6, .int .i64 p7]], own := [], upds := [] } : QSt)) (by decide) (qOf_call (g := 57) (args := [.agg ⟨[.int .i64 p0, .int .i64 p1, .int .i64 p2, .int .i64 p3]⟩, .agg ⟨[.int .i64 p4, .int .i64 p5]⟩]) (by kernel_rfl) lookC_hit) (by kernel_rfl) ?_
    refine QI.run (s1 := ({ act := (st 47 [(3, .pointer (some ⟨0, 0, none⟩)), (4, .pointer (some ⟨1, 0, none⟩)), (5, .pointer (some ⟨2, 0, none⟩)), (7, .int .i64 (w64 ((w64 (p4 * p7)) - (w64 (p5 * p6))))), (20, .agg ⟨[.int .i64 p0, .int .i64 p1, .int .i64 p2, .int .i64 p3]⟩), (21, .agg ⟨[.int .i64 p4, .int .i64 p5]⟩), (22, .agg ⟨[.int .i64 r1.1, .int .i64 r1.2]⟩), (23, .agg ⟨[.int .i64 p0, .int .i64 p1, .int .i64 p2, .int .i64 p3]⟩), (24, .agg ⟨[.int .i64 p6, .int .i64 p7]⟩)]), heap := [.cells 30 [.int .i64 p0, .int .i64 p1, .int .i64 p2, .int .i64 p3], .cells 41 [.int .i64 p4, .int .i64 p5], .cells 41 [.int .i64 p6, .int .i64 p7]], own := [], upds := [] } : QSt)) 2 (by kernel_rfl) (by kernel_rfl) ?_
    refine QI.op (q := { val := .agg ⟨[.int .i64 r3.1, .int .i64 r3.2]⟩, new := [] }) (s1 := ({ act := (st 47 [(3, .pointer (some ⟨0, 0, none⟩)), (4, .pointer (some ⟨1, 0, none⟩)), (5, .pointer (some ⟨2, 0, none⟩)), (7, .int .i64 (w64 ((w64 (p4 * p7)) - (w64 (p5 * p6))))), (20, .agg ⟨[.int .i64 p0, .int .i64 p1, .int .i64 p2, .int .i64 p3]⟩), (21, .agg ⟨[.int .i64 p4, .int .i64 p5]⟩), (22, .agg ⟨[.int .i64 r1.1, .int .i64 r1.2]⟩), (23, .agg ⟨[.int .i64 p0, .int .i64 p1, .int .i64 p2, .int .i64 p3]⟩), (24, .agg ⟨[.int .i64 p6, .int .i64 p7]⟩), (25, .agg ⟨[.int .i64 r3.1, .int .i64 r3.2]⟩)]), heap := [.cells 30 [.int .i64 p0, .int .i64 p1, .int .i64 p2, .int .i64 p3], .cells 41 [.int .i64 p4, .int .i64 p5], .cells 41 [.int .i64 p6, .int .i64 p7]], own := [], upds := [] } : QSt)) (by decide) (qOf_call (g := 57) (args := [.agg ⟨[.int .i64 p0, .int .i64 p1, .int .i64 p2, .int .i64 p3]⟩, .agg ⟨[.int .i64 p6, .int .i64 p7]⟩]) (by kernel_rfl) (lookC_skip (by intro _ ha _; have hq := h2; have hi := h4; clear hF; first | (exfalso; simp at ha; done) | ((try simp at ha); have hr := Option.some.inj (hq.symm.trans (Eq.trans (by first | rfl | (congr 1 <;> first | rfl | omega | simp_all)) hi)); subst hr; rfl)) lookC_hit)) (by kernel_rfl) ?_
    refine QI.run (s1 := ({ act := (st 47 [(3, .pointer (some ⟨0, 0, none⟩)), (4, .pointer (some ⟨1, 0, none⟩)), (5, .pointer (some ⟨2, 0, none⟩)), (7, .int .i64 (w64 ((w64 (p4 * p7)) - (w64 (p5 * p6))))), (8, .pointer (some ⟨3, 0, none⟩)), (20, .agg ⟨[.int .i64 p0, .int .i64 p1, .int .i64 p2, .int .i64 p3]⟩), (21, .agg ⟨[.int .i64 p4, .int .i64 p5]⟩), (22, .agg ⟨[.int .i64 r1.1, .int .i64 r1.2]⟩), (23, .agg ⟨[.int .i64 p0, .int .i64 p1, .int .i64 p2, .int .i64 p3]⟩), (24, .agg ⟨[.int .i64 p6, .int .i64 p7]⟩), (25, .agg ⟨[.int .i64 r3.1, .int .i64 r3.2]⟩), (26, .agg ⟨[.int .i64 r1.1, .int .i64 r1.2, .int .i64 r3.1, .int .i64 r3.2]⟩)]), heap := [.cells 30 [.int .i64 p0, .int .i64 p1, .int .i64 p2, .int .i64 p3], .cells 41 [.int .i64 p4, .int .i64 p5], .cells 41 [.int .i64 p6, .int .i64 p7], .cells 30 [.int .i64 0, .int .i64 0, .int .i64 0, .int .i64 0]], own := [(7, 3, 4)], upds := [] } : QSt)) 2 (by kernel_rfl) (by kernel_rfl) ?_
    exact QI.done (by kernel_rfl)
  · refine SI.run (a2 := (st 47 [(3, .pointer (some ⟨0, 0, none⟩)), (4, .pointer (some ⟨1, 0, none⟩)), (5, .pointer (some ⟨2, 0, none⟩)), (7, .int .i64 (w64 ((w64 (p4 * p7)) - (w64 (p5 * p6))))), (8, .pointer (some ⟨3, 0, none⟩)), (20, .agg ⟨[.int .i64 p0, .int .i64 p1, .int .i64 p2, .int .i64 p3]⟩), (21, .agg ⟨[.int .i64 p4, .int .i64 p5]⟩), (22, .agg ⟨[.int .i64 r1.1, .int .i64 r1.2]⟩), (23, .agg ⟨[.int .i64 p0, .int .i64 p1, .int .i64 p2, .int .i64 p3]⟩), (24, .agg ⟨[.int .i64 p6, .int .i64 p7]⟩), (25, .agg ⟨[.int .i64 r3.1, .int .i64 r3.2]⟩), (26, .agg ⟨[.int .i64 r1.1, .int .i64 r1.2, .int .i64 r3.1, .int .i64 r3.2]⟩)])) (h2 := [.cells 30 [.int .i64 p0, .int .i64 p1, .int .i64 p2, .int .i64 p3], .cells 41 [.int .i64 p4, .int .i64 p5], .cells 41 [.int .i64 p6, .int .i64 p7], .cells 30 [.int .i64 r1.1, .int .i64 r1.2, .int .i64 r3.1, .int .i64 r3.2]]) 1 (by kernel_rfl) ?_
    exact SI.done (by kernel_rfl)
  refine TS.seq' (x := c27.s2.s2.s2.s1) (y := c27.s2.s2.s2.s2) (by kernel_rfl) ?_
  have hX := of_do hF
  clear hF
  obtain ⟨m19, hm20, hF⟩ := hX
  have hK : NX Try.prog 0 0 [.sq c27.s2.s2.s2.s2] (FinP Try.prog Try.f27 0 (V27 0 r) (N27 0 r)) .normal (st 47 [(6, .bool m19)]) [.dead, .dead, .dead, .dead] := by
    refine NX.sq ?_
    refine TS.ret' (by kernel_rfl) ?_
    have hF := Option.some.inj hF
    subst hF
    exact ⟨.inr rfl, rfl, .bool m19, by kernel_rfl, WkV.flat0 (by kernel_rfl) (Nat.le_of_ble_eq_true rfl)⟩
  rcases Bool.eq_false_or_eq_true ((w64 ((w64 (p4 * p7)) - (w64 (p5 * p6)))) == 1) with hc5 | hc5
  · replace hm20 := of_pos hm20 hc5
    have hX := of_do hm20
    clear hm20
    obtain ⟨r6, h7, hm20⟩ := hX
    cases r6 with
    | true =>
      replace hm20 := of_pos hm20 rfl
      have hX := of_do hm20
      clear hm20
      obtain ⟨r8, h9, hm20⟩ := hX
      cases r8 with
      | true =>
        replace hm20 := of_pos hm20 rfl
        have hX := of_do hm20
        clear hm20
        obtain ⟨r10, h11, hm20⟩ := hX
        have hm20 := Option.some.inj hm20
        subst hm20
        refine TS.region' (id := 3) (b := false) (ops := c27.s2.s2.s2.s1.rops) (by kernel_rfl) rfl ?_
        refine TI.run 1 [7, 8, 27] [3] (a2 := (st 47 [(7, .int .i64 (w64 ((w64 (p4 * p7)) - (w64 (p5 * p6))))), (8, .pointer (some ⟨3, 0, none⟩)), (27, .int .i64 (w64 ((w64 (p4 * p7)) - (w64 (p5 * p6)))))])) (h2 := [.dead, .dead, .dead, .cells 30 [.int .i64 r1.1, .int .i64 r1.2, .int .i64 r3.1, .int .i64 r3.2]]) (by kernel_rfl) ?_
        refine TI.op (q := { val := .bool true }) (q_conv (e := (w64 ((w64 (p4 * p7)) - (w64 (p5 * p6)))) == 1) (b := true) (by kernel_rfl) hc5) [7, 8, 28] [3] (a2 := (st 47 [(7, .int .i64 (w64 ((w64 (p4 * p7)) - (w64 (p5 * p6))))), (8, .pointer (some ⟨3, 0, none⟩)), (28, .bool true)])) (h2 := [.dead, .dead, .dead, .cells 30 [.int .i64 r1.1, .int .i64 r1.2, .int .i64 r3.1, .int .i64 r3.2]]) (by kernel_rfl) ?_
        refine TI.run 7 [8, 33, 35] [3] (a2 := (st 47 [(8, .pointer (some ⟨3, 0, none⟩)), (33, .bool true), (35, .agg ⟨[.int .i64 r1.1, .int .i64 r1.2]⟩)])) (h2 := [.dead, .dead, .dead, .cells 30 [.int .i64 r1.1, .int .i64 r1.2, .int .i64 r3.1, .int .i64 r3.2]]) (by kernel_rfl) ?_
        refine TI.callM (g := 55) (args := [.agg ⟨[.int .i64 r1.1, .int .i64 r1.2]⟩, .int .i64 2000]) (v := .bool true) (new := []) (by kernel_rfl) (PureSim.any (C55 r1.1 r1.2 2000 true h7) (flatL (by kernel_rfl)) (by kernel_rfl) [.dead, .dead, .dead, .cells 30 [.int .i64 r1.1, .int .i64 r1.2, .int .i64 r3.1, .int .i64 r3.2]]) [8, 33, 36] [3] (a2 := (st 47 [(8, .pointer (some ⟨3, 0, none⟩)), (33, .bool true), (36, .bool true)])) (h2 := [.dead, .dead, .dead, .cells 30 [.int .i64 r1.1, .int .i64 r1.2, .int .i64 r3.1, .int .i64 r3.2]]) (by kernel_rfl) ?_
        refine TI.run 4 [8, 38, 40] [3] (a2 := (st 47 [(8, .pointer (some ⟨3, 0, none⟩)), (38, .bool true), (40, .agg ⟨[.int .i64 r3.1, .int .i64 r3.2]⟩)])) (h2 := [.dead, .dead, .dead, .cells 30 [.int .i64 r1.1, .int .i64 r1.2, .int .i64 r3.1, .int .i64 r3.2]]) (by kernel_rfl) ?_
        refine TI.callM (g := 55) (args := [.agg ⟨[.int .i64 r3.1, .int .i64 r3.2]⟩, .int .i64 2000]) (v := .bool true) (new := []) (by kernel_rfl) (PureSim.any (C55 r3.1 r3.2 2000 true h9) (flatL (by kernel_rfl)) (by kernel_rfl) [.dead, .dead, .dead, .cells 30 [.int .i64 r1.1, .int .i64 r1.2, .int .i64 r3.1, .int .i64 r3.2]]) [8, 38, 41] [3] (a2 := (st 47 [(8, .pointer (some ⟨3, 0, none⟩)), (38, .bool true), (41, .bool true)])) (h2 := [.dead, .dead, .dead, .cells 30 [.int .i64 r1.1, .int .i64 r1.2, .int .i64 r3.1, .int .i64 r3.2]]) (by kernel_rfl) ?_
        refine TI.run 3 [43, 44] [] (a2 := (st 47 [(43, .bool true), (44, .agg ⟨[.int .i64 r1.1, .int .i64 r1.2, .int .i64 r3.1, .int .i64 r3.2]⟩)])) (h2 := [.dead, .dead, .dead, .dead]) (by kernel_rfl) ?_
        refine TI.callM (g := 51) (args := [.agg ⟨[.int .i64 r1.1, .int .i64 r1.2, .int .i64 r3.1, .int .i64 r3.2]⟩]) (v := .bool r10) (new := []) (by kernel_rfl) (PureSim.any (C51 r1.1 r1.2 r3.1 r3.2 r10 h11) (flatL (by kernel_rfl)) (by kernel_rfl) [.dead, .dead, .dead, .dead]) [43, 45] [] (a2 := (st 47 [(43, .bool true), (45, .bool r10)])) (h2 := [.dead, .dead, .dead, .dead]) (by kernel_rfl) ?_
        refine TI.run 2 [6] [] (a2 := (st 47 [(6, .bool r10)])) (h2 := [.dead, .dead, .dead, .dead]) (by kernel_rfl) ?_
        refine TI.done (by kernel_rfl) ?_
        exact hK
      | false =>
        replace hm20 := of_neg hm20 rfl
        have hm20 := Option.some.inj hm20
        subst hm20
        refine TS.region' (id := 3) (b := false) (ops := c27.s2.s2.s2.s1.rops) (by kernel_rfl) rfl ?_
        refine TI.run 1 [7, 8, 27] [3] (a2 := (st 47 [(7, .int .i64 (w64 ((w64 (p4 * p7)) - (w64 (p5 * p6))))), (8, .pointer (some ⟨3, 0, none⟩)), (27, .int .i64 (w64 ((w64 (p4 * p7)) - (w64 (p5 * p6)))))])) (h2 := [.dead, .dead, .dead, .cells 30 [.int .i64 r1.1, .int .i64 r1.2, .int .i64 r3.1, .int .i64 r3.2]]) (by kernel_rfl) ?_
        refine TI.op (q := { val := .bool true }) (q_conv (e := (w64 ((w64 (p4 * p7)) - (w64 (p5 * p6)))) == 1) (b := true) (by kernel_rfl) hc5) [7, 8, 28] [3] (a2 := (st 47 [(7, .int .i64 (w64 ((w64 (p4 * p7)) - (w64 (p5 * p6))))), (8, .pointer (some ⟨3, 0, none⟩)), (28, .bool true)])) (h2 := [.dead, .dead, .dead, .cells 30 [.int .i64 r1.1, .int .i64 r1.2, .int .i64 r3.1, .int .i64 r3.2]]) (by kernel_rfl) ?_
        refine TI.run 7 [8, 33, 35] [3] (a2 := (st 47 [(8, .pointer (some ⟨3, 0, none⟩)), (33, .bool true), (35, .agg ⟨[.int .i64 r1.1, .int .i64 r1.2]⟩)])) (h2 := [.dead, .dead, .dead, .cells 30 [.int .i64 r1.1, .int .i64 r1.2, .int .i64 r3.1, .int .i64 r3.2]]) (by kernel_rfl) ?_
        refine TI.callM (g := 55) (args := [.agg ⟨[.int .i64 r1.1, .int .i64 r1.2]⟩, .int .i64 2000]) (v := .bool true) (new := []) (by kernel_rfl) (PureSim.any (C55 r1.1 r1.2 2000 true h7) (flatL (by kernel_rfl)) (by kernel_rfl) [.dead, .dead, .dead, .cells 30 [.int .i64 r1.1, .int .i64 r1.2, .int .i64 r3.1, .int .i64 r3.2]]) [8, 33, 36] [3] (a2 := (st 47 [(8, .pointer (some ⟨3, 0, none⟩)), (33, .bool true), (36, .bool true)])) (h2 := [.dead, .dead, .dead, .cells 30 [.int .i64 r1.1, .int .i64 r1.2, .int .i64 r3.1, .int .i64 r3.2]]) (by kernel_rfl) ?_
        refine TI.run 4 [8, 38, 40] [3] (a2 := (st 47 [(8, .pointer (some ⟨3, 0, none⟩)), (38, .bool true), (40, .agg ⟨[.int .i64 r3.1, .int .i64 r3.2]⟩)])) (h2 := [.dead, .dead, .dead, .cells 30 [.int .i64 r1.1, .int .i64 r1.2, .int .i64 r3.1, .int .i64 r3.2]]) (by kernel_rfl) ?_
        refine TI.callM (g := 55) (args := [.agg ⟨[.int .i64 r3.1, .int .i64 r3.2]⟩, .int .i64 2000]) (v := .bool false) (new := []) (by kernel_rfl) (PureSim.any (C55 r3.1 r3.2 2000 false h9) (flatL (by kernel_rfl)) (by kernel_rfl) [.dead, .dead, .dead, .cells 30 [.int .i64 r1.1, .int .i64 r1.2, .int .i64 r3.1, .int .i64 r3.2]]) [8, 38, 41] [3] (a2 := (st 47 [(8, .pointer (some ⟨3, 0, none⟩)), (38, .bool true), (41, .bool false)])) (h2 := [.dead, .dead, .dead, .cells 30 [.int .i64 r1.1, .int .i64 r1.2, .int .i64 r3.1, .int .i64 r3.2]]) (by kernel_rfl) ?_
        refine TI.run 6 [6] [] (a2 := (st 47 [(6, .bool false)])) (h2 := [.dead, .dead, .dead, .dead]) (by kernel_rfl) ?_
        refine TI.done (by kernel_rfl) ?_
        exact hK
    | false =>
      replace hm20 := of_neg hm20 rfl
      have hm20 := Option.some.inj hm20
      subst hm20
      refine TS.region' (id := 3) (b := false) (ops := c27.s2.s2.s2.s1.rops) (by kernel_rfl) rfl ?_
      refine TI.run 1 [7, 8, 27] [3] (a2 := (st 47 [(7, .int .i64 (w64 ((w64 (p4 * p7)) - (w64 (p5 * p6))))), (8, .pointer (some ⟨3, 0, none⟩)), (27, .int .i64 (w64 ((w64 (p4 * p7)) - (w64 (p5 * p6)))))])) (h2 := [.dead, .dead, .dead, .cells 30 [.int .i64 r1.1, .int .i64 r1.2, .int .i64 r3.1, .int .i64 r3.2]]) (by kernel_rfl) ?_
      refine TI.op (q := { val := .bool true }) (q_conv (e := (w64 ((w64 (p4 * p7)) - (w64 (p5 * p6)))) == 1) (b := true) (by kernel_rfl) hc5) [7, 8, 28] [3] (a2 := (st 47 [(7, .int .i64 (w64 ((w64 (p4 * p7)) - (w64 (p5 * p6))))), (8, .pointer (some ⟨3, 0, none⟩)), (28, .bool true)])) (h2 := [.dead, .dead, .dead, .cells 30 [.int .i64 r1.1, .int .i64 r1.2, .int .i64 r3.1, .int .i64 r3.2]]) (by kernel_rfl) ?_
      refine TI.run 7 [8, 33, 35] [3] (a2 := (st 47 [(8, .pointer (some ⟨3, 0, none⟩)), (33, .bool true), (35, .agg ⟨[.int .i64 r1.1, .int .i64 r1.2]⟩)])) (h2 := [.dead, .dead, .dead, .cells 30 [.int .i64 r1.1, .int .i64 r1.2, .int .i64 r3.1, .int .i64 r3.2]]) (by kernel_rfl) ?_
      refine TI.callM (g := 55) (args := [.agg ⟨[.int .i64 r1.1, .int .i64 r1.2]⟩, .int .i64 2000]) (v := .bool false) (new := []) (by kernel_rfl) (PureSim.any (C55 r1.1 r1.2 2000 false h7) (flatL (by kernel_rfl)) (by kernel_rfl) [.dead, .dead, .dead, .cells 30 [.int .i64 r1.1, .int .i64 r1.2, .int .i64 r3.1, .int .i64 r3.2]]) [8, 33, 36] [3] (a2 := (st 47 [(8, .pointer (some ⟨3, 0, none⟩)), (33, .bool true), (36, .bool false)])) (h2 := [.dead, .dead, .dead, .cells 30 [.int .i64 r1.1, .int .i64 r1.2, .int .i64 r3.1, .int .i64 r3.2]]) (by kernel_rfl) ?_
      refine TI.run 11 [6] [] (a2 := (st 47 [(6, .bool false)])) (h2 := [.dead, .dead, .dead, .dead]) (by kernel_rfl) ?_
      refine TI.done (by kernel_rfl) ?_
      exact hK
  · replace hm20 := of_neg hm20 hc5
    rcases Bool.eq_false_or_eq_true ((w64 ((w64 (p4 * p7)) - (w64 (p5 * p6)))) == (-1)) with hc12 | hc12
    · replace hm20 := of_pos hm20 hc12
      have hX := of_do hm20
      clear hm20
      obtain ⟨r13, h14, hm20⟩ := hX
      cases r13 with
      | true =>
        replace hm20 := of_pos hm20 rfl
        have hX := of_do hm20
        clear hm20
        obtain ⟨r15, h16, hm20⟩ := hX
        cases r15 with
        | true =>
          replace hm20 := of_pos hm20 rfl
          have hX := of_do hm20
          clear hm20
          obtain ⟨r17, h18, hm20⟩ := hX
          have hm20 := Option.some.inj hm20
          subst hm20
          refine TS.region' (id := 3) (b := false) (ops := c27.s2.s2.s2.s1.rops) (by kernel_rfl) rfl ?_
          refine TI.run 1 [7, 8, 27] [3] (a2 := (st 47 [(7, .int .i64 (w64 ((w64 (p4 * p7)) - (w64 (p5 * p6))))), (8, .pointer (some ⟨3, 0, none⟩)), (27, .int .i64 (w64 ((w64 (p4 * p7)) - (w64 (p5 * p6)))))])) (h2 := [.dead, .dead, .dead, .cells 30 [.int .i64 r1.1, .int .i64 r1.2, .int .i64 r3.1, .int .i64 r3.2]]) (by kernel_rfl) ?_
          refine TI.op (q := { val := .bool false }) (q_conv (e := (w64 ((w64 (p4 * p7)) - (w64 (p5 * p6)))) == 1) (b := false) (by kernel_rfl) hc5) [7, 8, 28] [3] (a2 := (st 47 [(7, .int .i64 (w64 ((w64 (p4 * p7)) - (w64 (p5 * p6))))), (8, .pointer (some ⟨3, 0, none⟩)), (28, .bool false)])) (h2 := [.dead, .dead, .dead, .cells 30 [.int .i64 r1.1, .int .i64 r1.2, .int .i64 r3.1, .int .i64 r3.2]]) (by kernel_rfl) ?_
          refine TI.run 2 [8, 29, 30] [3] (a2 := (st 47 [(8, .pointer (some ⟨3, 0, none⟩)), (29, .bool false), (30, .int .i64 (w64 ((w64 (p4 * p7)) - (w64 (p5 * p6)))))])) (h2 := [.dead, .dead, .dead, .cells 30 [.int .i64 r1.1, .int .i64 r1.2, .int .i64 r3.1, .int .i64 r3.2]]) (by kernel_rfl) ?_
          refine TI.op (q := { val := .bool true }) (q_conv (e := (w64 ((w64 (p4 * p7)) - (w64 (p5 * p6)))) == (-1)) (b := true) (by kernel_rfl) hc12) [8, 29, 31] [3] (a2 := (st 47 [(8, .pointer (some ⟨3, 0, none⟩)), (29, .bool false), (31, .bool true)])) (h2 := [.dead, .dead, .dead, .cells 30 [.int .i64 r1.1, .int .i64 r1.2, .int .i64 r3.1, .int .i64 r3.2]]) (by kernel_rfl) ?_
          refine TI.run 4 [8, 33, 35] [3] (a2 := (st 47 [(8, .pointer (some ⟨3, 0, none⟩)), (33, .bool true), (35, .agg ⟨[.int .i64 r1.1, .int .i64 r1.2]⟩)])) (h2 := [.dead, .dead, .dead, .cells 30 [.int .i64 r1.1, .int .i64 r1.2, .int .i64 r3.1, .int .i64 r3.2]]) (by kernel_rfl) ?_
          refine TI.callM (g := 55) (args := [.agg ⟨[.int .i64 r1.1, .int .i64 r1.2]⟩, .int .i64 2000]) (v := .bool true) (new := []) (by kernel_rfl) (PureSim.any (C55 r1.1 r1.2 2000 true h14) (flatL (by kernel_rfl)) (by kernel_rfl) [.dead, .dead, .dead, .cells 30 [.int .i64 r1.1, .int .i64 r1.2, .int .i64 r3.1, .int .i64 r3.2]]) [8, 33, 36] [3] (a2 := (st 47 [(8, .pointer (some ⟨3, 0, none⟩)), (33, .bool true), (36, .bool true)])) (h2 := [.dead, .dead, .dead, .cells 30 [.int .i64 r1.1, .int .i64 r1.2, .int .i64 r3.1, .int .i64 r3.2]]) (by kernel_rfl) ?_
          refine TI.run 4 [8, 38, 40] [3] (a2 := (st 47 [(8, .pointer (some ⟨3, 0, none⟩)), (38, .bool true), (40, .agg ⟨[.int .i64 r3.1, .int .i64 r3.2]⟩)])) (h2 := [.dead, .dead, .dead, .cells 30 [.int .i64 r1.1, .int .i64 r1.2, .int .i64 r3.1, .int .i64 r3.2]]) (by kernel_rfl) ?_
          refine TI.callM (g := 55) (args := [.agg ⟨[.int .i64 r3.1, .int .i64 r3.2]⟩, .int .i64 2000]) (v := .bool true) (new := []) (by kernel_rfl) (PureSim.any (C55 r3.1 r3.2 2000 true h16) (flatL (by kernel_rfl)) (by kernel_rfl) [.dead, .dead, .dead, .cells 30 [.int .i64 r1.1, .int .i64 r1.2, .int .i64 r3.1, .int .i64 r3.2]]) [8, 38, 41] [3] (a2 := (st 47 [(8, .pointer (some ⟨3, 0, none⟩)), (38, .bool true), (41, .bool true)])) (h2 := [.dead, .dead, .dead, .cells 30 [.int .i64 r1.1, .int .i64 r1.2, .int .i64 r3.1, .int .i64 r3.2]]) (by kernel_rfl) ?_
          refine TI.run 3 [43, 44] [] (a2 := (st 47 [(43, .bool true), (44, .agg ⟨[.int .i64 r1.1, .int .i64 r1.2, .int .i64 r3.1, .int .i64 r3.2]⟩)])) (h2 := [.dead, .dead, .dead, .dead]) (by kernel_rfl) ?_
          refine TI.callM (g := 51) (args := [.agg ⟨[.int .i64 r1.1, .int .i64 r1.2, .int .i64 r3.1, .int .i64 r3.2]⟩]) (v := .bool r17) (new := []) (by kernel_rfl) (PureSim.any (C51 r1.1 r1.2 r3.1 r3.2 r17 h18) (flatL (by kernel_rfl)) (by kernel_rfl) [.dead, .dead, .dead, .dead]) [43, 45] [] (a2 := (st 47 [(43, .bool true), (45, .bool r17)])) (h2 := [.dead, .dead, .dead, .dead]) (by kernel_rfl) ?_
          refine TI.run 2 [6] [] (a2 := (st 47 [(6, .bool r17)])) (h2 := [.dead, .dead, .dead, .dead]) (by kernel_rfl) ?_
          refine TI.done (by kernel_rfl) ?_
          exact hK
        | false =>
          replace hm20 := of_neg hm20 rfl
          have hm20 := Option.some.inj hm20
          subst hm20
          refine TS.region' (id := 3) (b := false) (ops := c27.s2.s2.s2.s1.rops) (by kernel_rfl) rfl ?_
          refine TI.run 1 [7, 8, 27] [3] (a2 := (st 47 [(7, .int .i64 (w64 ((w64 (p4 * p7)) - (w64 (p5 * p6))))), (8, .pointer (some ⟨3, 0, none⟩)), (27, .int .i64 (w64 ((w64 (p4 * p7)) - (w64 (p5 * p6)))))])) (h2 := [.dead, .dead, .dead, .cells 30 [.int .i64 r1.1, .int .i64 r1.2, .int .i64 r3.1, .int .i64 r3.2]]) (by kernel_rfl) ?_
          refine TI.op (q := { val := .bool false }) (q_conv (e := (w64 ((w64 (p4 * p7)) - (w64 (p5 * p6)))) == 1) (b := false) (by kernel_rfl) hc5) [7, 8, 28] [3] (a2 := (st 47 [(7, .int .i64 (w64 ((w64 (p4 * p7)) - (w64 (p5 * p6))))), (8, .pointer (some ⟨3, 0, none⟩)), (28, .bool false)])) (h2 := [.dead, .dead, .dead, .cells 30 [.int .i64 r1.1, .int .i64 r1.2, .int .i64 r3.1, .int .i64 r3.2]]) (by kernel_rfl) ?_
          refine TI.run 2 [8, 29, 30] [3] (a2 := (st 47 [(8, .pointer (some ⟨3, 0, none⟩)), (29, .bool false), (30, .int .i64 (w64 ((w64 (p4 * p7)) - (w64 (p5 * p6)))))])) (h2 := [.dead, .dead, .dead, .cells 30 [.int .i64 r1.1, .int .i64 r1.2, .int .i64 r3.1, .int .i64 r3.2]]) (by kernel_rfl) ?_
          refine TI.op (q := { val := .bool true }) (q_conv (e := (w64 ((w64 (p4 * p7)) - (w64 (p5 * p6)))) == (-1)) (b := true) (by kernel_rfl) hc12) [8, 29, 31] [3] (a2 := (st 47 [(8, .pointer (some ⟨3, 0, none⟩)), (29, .bool false), (31, .bool true)])) (h2 := [.dead, .dead, .dead, .cells 30 [.int .i64 r1.1, .int .i64 r1.2, .int .i64 r3.1, .int .i64 r3.2]]) (by kernel_rfl) ?_
          refine TI.run 4 [8, 33, 35] [3] (a2 := (st 47 [(8, .pointer (some ⟨3, 0, none⟩)), (33, .bool true), (35, .agg ⟨[.int .i64 r1.1, .int .i64 r1.2]⟩)])) (h2 := [.dead, .dead, .dead, .cells 30 [.int .i64 r1.1, .int .i64 r1.2, .int .i64 r3.1, .int .i64 r3.2]]) (by kernel_rfl) ?_
          refine TI.callM (g := 55) (args := [.agg ⟨[.int .i64 r1.1, .int .i64 r1.2]⟩, .int .i64 2000]) (v := .bool true) (new := []) (by kernel_rfl) (PureSim.any (C55 r1.1 r1.2 2000 true h14) (flatL (by kernel_rfl)) (by kernel_rfl) [.dead, .dead, .dead, .cells 30 [.int .i64 r1.1, .int .i64 r1.2, .int .i64 r3.1, .int .i64 r3.2]]) [8, 33, 36] [3] (a2 := (st 47 [(8, .pointer (some ⟨3, 0, none⟩)), (33, .bool true), (36, .bool true)])) (h2 := [.dead, .dead, .dead, .cells 30 [.int .i64 r1.1, .int .i64 r1.2, .int .i64 r3.1, .int .i64 r3.2]]) (by kernel_rfl) ?_
          refine TI.run 4 [8, 38, 40] [3] (a2 := (st 47 [(8, .pointer (some ⟨3, 0, none⟩)), (38, .bool true), (40, .agg ⟨[.int .i64 r3.1, .int .i64 r3.2]⟩)])) (h2 := [.dead, .dead, .dead, .cells 30 [.int .i64 r1.1, .int .i64 r1.2, .int .i64 r3.1, .int .i64 r3.2]]) (by kernel_rfl) ?_
          refine TI.callM (g := 55) (args := [.agg ⟨[.int .i64 r3.1, .int .i64 r3.2]⟩, .int .i64 2000]) (v := .bool false) (new := []) (by kernel_rfl) (PureSim.any (C55 r3.1 r3.2 2000 false h16) (flatL (by kernel_rfl)) (by kernel_rfl) [.dead, .dead, .dead, .cells 30 [.int .i64 r1.1, .int .i64 r1.2, .int .i64 r3.1, .int .i64 r3.2]]) [8, 38, 41] [3] (a2 := (st 47 [(8, .pointer (some ⟨3, 0, none⟩)), (38, .bool true), (41, .bool false)])) (h2 := [.dead, .dead, .dead, .cells 30 [.int .i64 r1.1, .int .i64 r1.2, .int .i64 r3.1, .int .i64 r3.2]]) (by kernel_rfl) ?_
          refine TI.run 6 [6] [] (a2 := (st 47 [(6, .bool false)])) (h2 := [.dead, .dead, .dead, .dead]) (by kernel_rfl) ?_
          refine TI.done (by kernel_rfl) ?_
          exact hK
      | false =>
        replace hm20 := of_neg hm20 rfl
        have hm20 := Option.some.inj hm20
        subst hm20
        refine TS.region' (id := 3) (b := false) (ops := c27.s2.s2.s2.s1.rops) (by kernel_rfl) rfl ?_
        refine TI.run 1 [7, 8, 27] [3] (a2 := (st 47 [(7, .int .i64 (w64 ((w64 (p4 * p7)) - (w64 (p5 * p6))))), (8, .pointer (some ⟨3, 0, none⟩)), (27, .int .i64 (w64 ((w64 (p4 * p7)) - (w64 (p5 * p6)))))])) (h2 := [.dead, .dead, .dead, .cells 30 [.int .i64 r1.1, .int .i64 r1.2, .int .i64 r3.1, .int .i64 r3.2]]) (by kernel_rfl) ?_
        refine TI.op (q := { val := .bool false }) (q_conv (e := (w64 ((w64 (p4 * p7)) - (w64 (p5 * p6)))) == 1) (b := false) (by kernel_rfl) hc5) [7, 8, 28] [3] (a2 := (st 47 [(7, .int .i64 (w64 ((w64 (p4 * p7)) - (w64 (p5 * p6))))), (8, .pointer (some ⟨3, 0, none⟩)), (28, .bool false)])) (h2 := [.dead, .dead, .dead, .cells 30 [.int .i64 r1.1, .int .i64 r1.2, .int .i64 r3.1, .int .i64 r3.2]]) (by kernel_rfl) ?_
        refine TI.run 2 [8, 29, 30] [3] (a2 := (st 47 [(8, .pointer (some ⟨3, 0, none⟩)), (29, .bool false), (30, .int .i64 (w64 ((w64 (p4 * p7)) - (w64 (p5 * p6)))))])) (h2 := [.dead, .dead, .dead, .cells 30 [.int .i64 r1.1, .int .i64 r1.2, .int .i64 r3.1, .int .i64 r3.2]]) (by kernel_rfl) ?_
        refine TI.op (q := { val := .bool true }) (q_conv (e := (w64 ((w64 (p4 * p7)) - (w64 (p5 * p6)))) == (-1)) (b := true) (by kernel_rfl) hc12) [8, 29, 31] [3] (a2 := (st 47 [(8, .pointer (some ⟨3, 0, none⟩)), (29, .bool false), (31, .bool true)])) (h2 := [.dead, .dead, .dead, .cells 30 [.int .i64 r1.1, .int .i64 r1.2, .int .i64 r3.1, .int .i64 r3.2]]) (by kernel_rfl) ?_
        refine TI.run 4 [8, 33, 35] [3] (a2 := (st 47 [(8, .pointer (some ⟨3, 0, none⟩)), (33, .bool true), (35, .agg ⟨[.int .i64 r1.1, .int .i64 r1.2]⟩)])) (h2 := [.dead, .dead, .dead, .cells 30 [.int .i64 r1.1, .int .i64 r1.2, .int .i64 r3.1, .int .i64 r3.2]]) (by kernel_rfl) ?_
        refine TI.callM (g := 55) (args := [.agg ⟨[.int .i64 r1.1, .int .i64 r1.2]⟩, .int .i64 2000]) (v := .bool false) (new := []) (by kernel_rfl) (PureSim.any (C55 r1.1 r1.2 2000 false h14) (flatL (by kernel_rfl)) (by kernel_rfl) [.dead, .dead, .dead, .cells 30 [.int .i64 r1.1, .int .i64 r1.2, .int .i64 r3.1, .int .i64 r3.2]]) [8, 33, 36] [3] (a2 := (st 47 [(8, .pointer (some ⟨3, 0, none⟩)), (33, .bool true), (36, .bool false)])) (h2 := [.dead, .dead, .dead, .cells 30 [.int .i64 r1.1, .int .i64 r1.2, .int .i64 r3.1, .int .i64 r3.2]]) (by kernel_rfl) ?_
        refine TI.run 11 [6] [] (a2 := (st 47 [(6, .bool false)])) (h2 := [.dead, .dead, .dead, .dead]) (by kernel_rfl) ?_
        refine TI.done (by kernel_rfl) ?_
        exact hK
    · replace hm20 := of_neg hm20 hc12
      have hm20 := Option.some.inj hm20
      subst hm20
      refine TS.region' (id := 3) (b := false) (ops := c27.s2.s2.s2.s1.rops) (by kernel_rfl) rfl ?_
      refine TI.run 1 [7, 8, 27] [3] (a2 := (st 47 [(7, .int .i64 (w64 ((w64 (p4 * p7)) - (w64 (p5 * p6))))), (8, .pointer (some ⟨3, 0, none⟩)), (27, .int .i64 (w64 ((w64 (p4 * p7)) - (w64 (p5 * p6)))))])) (h2 := [.dead, .dead, .dead, .cells 30 [.int .i64 r1.1, .int .i64 r1.2, .int .i64 r3.1, .int .i64 r3.2]]) (by kernel_rfl) ?_
      refine TI.op (q := { val := .bool false }) (q_conv (e := (w64 ((w64 (p4 * p7)) - (w64 (p5 * p6)))) == 1) (b := false) (by kernel_rfl) hc5) [7, 8, 28] [3] (a2 := (st 47 [(7, .int .i64 (w64 ((w64 (p4 * p7)) - (w64 (p5 * p6))))), (8, .pointer (some ⟨3, 0, none⟩)), (28, .bool false)])) (h2 := [.dead, .dead, .dead, .cells 30 [.int .i64 r1.1, .int .i64 r1.2, .int .i64 r3.1, .int .i64 r3.2]]) (by kernel_rfl) ?_
      refine TI.run 2 [8, 29, 30] [3] (a2 := (st 47 [(8, .pointer (some ⟨3, 0, none⟩)), (29, .bool false), (30, .int .i64 (w64 ((w64 (p4 * p7)) - (w64 (p5 * p6)))))])) (h2 := [.dead, .dead, .dead, .cells 30 [.int .i64 r1.1, .int .i64 r1.2, .int .i64 r3.1, .int .i64 r3.2]]) (by kernel_rfl) ?_
      refine TI.op (q := { val := .bool false }) (q_conv (e := (w64 ((w64 (p4 * p7)) - (w64 (p5 * p6)))) == (-1)) (b := false) (by kernel_rfl) hc12) [8, 29, 31] [3] (a2 := (st 47 [(8, .pointer (some ⟨3, 0, none⟩)), (29, .bool false), (31, .bool false)])) (h2 := [.dead, .dead, .dead, .cells 30 [.int .i64 r1.1, .int .i64 r1.2, .int .i64 r3.1, .int .i64 r3.2]]) (by kernel_rfl) ?_
      refine TI.run 16 [6] [] (a2 := (st 47 [(6, .bool false)])) (h2 := [.dead, .dead, .dead, .dead]) (by kernel_rfl) ?_
      refine TI.done (by kernel_rfl) ?_
      exact hK
theorem C27 (p0 : Int) (p1 : Int) (p2 : Int) (p3 : Int) (p4 : Int) (p5 : Int) (p6 : Int) (p7 : Int) (r : Bool) (hF : F27 p0 p1 p2 p3 p4 p5 p6 p7 = some r) : PureSim Try.prog 27 [.agg ⟨[.int .i64 p0, .int .i64 p1, .int .i64 p2, .int .i64 p3]⟩, .agg ⟨[.int .i64 p4, .int .i64 p5]⟩, .agg ⟨[.int .i64 p6, .int .i64 p7]⟩] [] (V27 0 r) (N27 0 r) :=
  PureSim.of_Fin Try.func27 (c := c27) (by kernel_rfl) (by kernel_rfl) 0 rfl [0, 1, 2] [] (by kernel_rfl) (B27 p0 p1 p2 p3 p4 p5 p6 p7 r hF)

-- agonic/agoniclaw06.MagnetReduces
noncomputable def c4 : Code := Try.f4.code
def F4 (p0 : Int) (p1 : Int) (p2 : Int) (p3 : Int) : Option Bool :=
  F13 p0 p1 p2 p3 >>= fun r1 =>
  F23 p0 p1 p2 p3 >>= fun r3 =>
  F24 r1.1.1 r1.1.2 r1.2.1 r1.2.2 >>= fun r5 =>
  F25 p0 p1 p2 p3 >>= fun r7 =>
  F26 r1.1.1 r1.1.2 r1.2.1 r1.2.2 >>= fun r9 =>
  (
    if r3.2.2 != r5.2.2 then
      some (true)
    else
      if r7.1 != r9.1 then
        some (true)
      else
        some (r7.2 != r9.2)
  : Option Bool) >>= fun m13 =>
  if m13 then
    some false
  else
    if r5.2.2 != 0 then
      (
        if ((r3.1.1 == 0) && ((r3.1.2 == 0) && true)) then
          if ((r3.2.1.1 == 0) && ((r3.2.1.2 == 0) && true)) then
            F22 >>= fun r17 =>
            some (r17)
          else
            some (false)
        else
          some (false)
      : Option Bool) >>= fun m19 =>
      some m19
    else
      some (mx (mx (mx (mx (mx (mx (mx r3.1.1 (w64 (0 - r3.1.1))) r3.1.2) (w64 (0 - r3.1.2))) r3.2.1.1) (w64 (0 - r3.2.1.1))) r3.2.1.2) (w64 (0 - r3.2.1.2))) >>= fun o21 =>
      (
        if decide (o21 ≤ 100000000) then
          F19 r3.1.1 r3.1.2 >>= fun r24 =>
          F19 r3.2.1.1 r3.2.1.2 >>= fun r26 =>
          F27 r1.1.1 r1.1.2 r1.2.1 r1.2.2 r24.1 r24.2 r26.1 r26.2 >>= fun r28 =>
          if r28 then
            F22 >>= fun r30 =>
            some (r30)
          else
            some (false)
        else
          some (false)
      : Option Bool) >>= fun m32 =>
      some m32
def V4 (b : Nat) (r : Bool) : Value := .bool r
def N4 (b : Nat) (r : Bool) : List Blk := []
theorem B4 (p0 : Int) (p1 : Int) (p2 : Int) (p3 : Int) (r : Bool) (hF : F4 p0 p1 p2 p3 = some r) : TS Try.prog 0 0 c4 (st 99 [(0, .agg ⟨[.int .i64 p0, .int .i64 p1, .int .i64 p2, .int .i64 p3]⟩)]) [] (NX Try.prog 0 0 [] (FinP Try.prog Try.f4 0 (V4 0 r) (N4 0 r))) := by
  unfold F4 at hF
  refine TS.seq' (x := c4.s1) (y := c4.s2) (by kernel_rfl) ?_
  refine TS.region' (id := 0) (b := false) (ops := c4.s1.rops) (by kernel_rfl) rfl ?_
  refine TI.run 2 [1] [0] (a2 := (st 99 [(1, .pointer (some ⟨0, 0, none⟩))])) (h2 := [.cells 25 [.int .i64 p0, .int .i64 p1, .int .i64 p2, .int .i64 p3]]) (by kernel_rfl) ?_
  refine TI.done (by kernel_rfl) ?_
  refine NX.sq ?_
  refine TS.seq' (x := c4.s2.s1) (y := c4.s2.s2) (by kernel_rfl) ?_
  have hX := of_do hF
  clear hF
  obtain ⟨r1, h2, hF⟩ := hX
  refine TS.region' (id := 1) (b := false) (ops := c4.s2.s1.rops) (by kernel_rfl) rfl ?_
  refine TI.run 1 [1, 15] [0] (a2 := (st 99 [(1, .pointer (some ⟨0, 0, none⟩)), (15, .agg ⟨[.int .i64 p0, .int .i64 p1, .int .i64 p2, .int .i64 p3]⟩)])) (h2 := [.cells 25 [.int .i64 p0, .int .i64 p1, .int .i64 p2, .int .i64 p3]]) (by kernel_rfl) ?_
  refine TI.callM (g := 13) (args := [.agg ⟨[.int .i64 p0, .int .i64 p1, .int .i64 p2, .int .i64 p3]⟩]) (v := .agg ⟨[.int .i64 r1.1.1, .int .i64 r1.1.2, .int .i64 r1.2.1, .int .i64 r1.2.2]⟩) (new := []) (by kernel_rfl) (PureSim.any (C13 p0 p1 p2 p3 r1 h2) (flatL (by kernel_rfl)) (by kernel_rfl) [.cells 25 [.int .i64 p0, .int .i64 p1, .int .i64 p2, .int .i64 p3]]) [1, 16] [0] (a2 := (st 99 [(1, .pointer (some ⟨0, 0, none⟩)), (16, .agg ⟨[.int .i64 r1.1.1, .int .i64 r1.1.2, .int .i64 r1.2.1, .int .i64 r1.2.2]⟩)])) (h2 := [.cells 25 [.int .i64 p0, .int .i64 p1, .int .i64 p2, .int .i64 p3]]) (by kernel_rfl) ?_
  refine TI.run 2 [1, 3] [0, 1] (a2 := (st 99 [(1, .pointer (some ⟨0, 0, none⟩)), (3, .pointer (some ⟨1, 0, none⟩))])) (h2 := [.cells 25 [.int .i64 p0, .int .i64 p1, .int .i64 p2, .int .i64 p3], .cells 30 [.int .i64 r1.1.1, .int .i64 r1.1.2, .int .i64 r1.2.1, .int .i64 r1.2.2]]) (by kernel_rfl) ?_
  refine TI.done (by kernel_rfl) ?_
  refine NX.sq ?_
  refine TS.seq' (x := c4.s2.s2.s1) (y := c4.s2.s2.s2) (by kernel_rfl) ?_
  have hX := of_do hF
  clear hF
  obtain ⟨r3, h4, hF⟩ := hX
  refine TS.region' (id := 2) (b := false) (ops := c4.s2.s2.s1.rops) (by kernel_rfl) rfl ?_
  refine TI.run 1 [1, 3, 18] [0, 1] (a2 := (st 99 [(1, .pointer (some ⟨0, 0, none⟩)), (3, .pointer (some ⟨1, 0, none⟩)), (18, .agg ⟨[.int .i64 p0, .int .i64 p1, .int .i64 p2, .int .i64 p3]⟩)])) (h2 := [.cells 25 [.int .i64 p0, .int .i64 p1, .int .i64 p2, .int .i64 p3], .cells 30 [.int .i64 r1.1.1, .int .i64 r1.1.2, .int .i64 r1.2.1, .int .i64 r1.2.2]]) (by kernel_rfl) ?_
  refine TI.callM (g := 23) (args := [.agg ⟨[.int .i64 p0, .int .i64 p1, .int .i64 p2, .int .i64 p3]⟩]) (v := .tuple ⟨[.agg ⟨[.int .i64 r3.1.1, .int .i64 r3.1.2]⟩, .agg ⟨[.int .i64 r3.2.1.1, .int .i64 r3.2.1.2]⟩, .int .i64 r3.2.2]⟩) (new := []) (by kernel_rfl) (PureSim.any (C23 p0 p1 p2 p3 r3 h4) (flatL (by kernel_rfl)) (by kernel_rfl) [.cells 25 [.int .i64 p0, .int .i64 p1, .int .i64 p2, .int .i64 p3], .cells 30 [.int .i64 r1.1.1, .int .i64 r1.1.2, .int .i64 r1.2.1, .int .i64 r1.2.2]]) [1, 3, 19] [0, 1] (a2 := (st 99 [(1, .pointer (some ⟨0, 0, none⟩)), (3, .pointer (some ⟨1, 0, none⟩)), (19, .tuple ⟨[.agg ⟨[.int .i64 r3.1.1, .int .i64 r3.1.2]⟩, .agg ⟨[.int .i64 r3.2.1.1, .int .i64 r3.2.1.2]⟩, .int .i64 r3.2.2]⟩)])) (h2 := [.cells 25 [.int .i64 p0, .int .i64 p1, .int .i64 p2, .int .i64 p3], .cells 30 [.int .i64 r1.1.1, .int .i64 r1.1.2, .int .i64 r1.2.1, .int .i64 r1.2.2]]) (by kernel_rfl) ?_
  refine TI.run 9 [1, 3, 4, 5, 6] [0, 1, 2, 3] (a2 := (st 99 [(1, .pointer (some ⟨0, 0, none⟩)), (3, .pointer (some ⟨1, 0, none⟩)), (4, .pointer (some ⟨2, 0, none⟩)), (5, .pointer (some ⟨3, 0, none⟩)), (6, .int .i64 r3.2.2)])) (h2 := [.cells 25 [.int .i64 p0, .int .i64 p1, .int .i64 p2, .int .i64 p3], .cells 30 [.int .i64 r1.1.1, .int .i64 r1.1.2, .int .i64 r1.2.1, .int .i64 r1.2.2], .cells 27 [.int .i64 r3.1.1, .int .i64 r3.1.2], .cells 27 [.int .i64 r3.2.1.1, .int .i64 r3.2.1.2]]) (by kernel_rfl) ?_
  refine TI.done (by kernel_rfl) ?_
  refine NX.sq ?_
  refine TS.seq' (x := c4.s2.s2.s2.s1) (y := c4.s2.s2.s2.s2) (by kernel_rfl) ?_
  have hX := of_do hF
  clear hF
  obtain ⟨r5, h6, hF⟩ := hX
  refine TS.region' (id := 3) (b := false) (ops := c4.s2.s2.s2.s1.rops) (by kernel_rfl) rfl ?_
  refine TI.run 1 [1, 3, 4, 5, 6, 24] [0, 1, 2, 3] (a2 := (st 99 [(1, .pointer (some ⟨0, 0, none⟩)), (3, .pointer (some ⟨1, 0, none⟩)), (4, .pointer (some ⟨2, 0, none⟩)), (5, .pointer (some ⟨3, 0, none⟩)), (6, .int .i64 r3.2.2), (24, .agg ⟨[.int .i64 r1.1.1, .int .i64 r1.1.2, .int .i64 r1.2.1, .int .i64 r1.2.2]⟩)])) (h2 := [.cells 25 [.int .i64 p0, .int .i64 p1, .int .i64 p2, .int .i64 p3], .cells 30 [.int .i64 r1.1.1, .int .i64 r1.1.2, .int .i64 r1.2.1, .int .i64 r1.2.2], .cells 27 [.int .i64 r3.1.1, .int .i64 r3.1.2], .cells 27 [.int .i64 r3.2.1.1, .int .i64 r3.2.1.2]]) (by kernel_rfl) ?_
  refine TI.callM (g := 24) (args := [.agg ⟨[.int .i64 r1.1.1, .int .i64 r1.1.2, .int .i64 r1.2.1, .int .i64 r1.2.2]⟩]) (v := .tuple ⟨[.agg ⟨[.int .i64 r5.1.1, .int .i64 r5.1.2]⟩, .agg ⟨[.int .i64 r5.2.1.1, .int .i64 r5.2.1.2]⟩, .int .i64 r5.2.2]⟩) (new := []) (by kernel_rfl) (PureSim.any (C24 r1.1.1 r1.1.2 r1.2.1 r1.2.2 r5 h6) (flatL (by kernel_rfl)) (by kernel_rfl) [.cells 25 [.int .i64 p0, .int .i64 p1, .int .i64 p2, .int .i64 p3], .cells 30 [.int .i64 r1.1.1, .int .i64 r1.1.2, .int .i64 r1.2.1, .int .i64 r1.2.2], .cells 27 [.int .i64 r3.1.1, .int .i64 r3.1.2], .cells 27 [.int .i64 r3.2.1.1, .int .i64 r3.2.1.2]]) [1, 3, 4, 5, 6, 25] [0, 1, 2, 3] (a2 := (st 99 [(1, .pointer (some ⟨0, 0, none⟩)), (3, .pointer (some ⟨1, 0, none⟩)), (4, .pointer (some ⟨2, 0, none⟩)), (5, .pointer (some ⟨3, 0, none⟩)), (6, .int .i64 r3.2.2), (25, .tuple ⟨[.agg ⟨[.int .i64 r5.1.1, .int .i64 r5.1.2]⟩, .agg ⟨[.int .i64 r5.2.1.1, .int .i64 r5.2.1.2]⟩, .int .i64 r5.2.2]⟩)])) (h2 := [.cells 25 [.int .i64 p0, .int .i64 p1, .int .i64 p2, .int .i64 p3], .cells 30 [.int .i64 r1.1.1, .int .i64 r1.1.2, .int .i64 r1.2.1, .int .i64 r1.2.2], .cells 27 [.int .i64 r3.1.1, .int .i64 r3.1.2], .cells 27 [.int .i64 r3.2.1.1, .int .i64 r3.2.1.2]]) (by kernel_rfl) ?_
  refine TI.run 9 [1, 3, 4, 5, 6, 9] [0, 1, 2, 3] (a2 := (st 99 [(1, .pointer (some ⟨0, 0, none⟩)), (3, .pointer (some ⟨1, 0, none⟩)), (4, .pointer (some ⟨2, 0, none⟩)), (5, .pointer (some ⟨3, 0, none⟩)), (6, .int .i64 r3.2.2), (9, .int .i64 r5.2.2)])) (h2 := [.cells 25 [.int .i64 p0, .int .i64 p1, .int .i64 p2, .int .i64 p3], .cells 30 [.int .i64 r1.1.1, .int .i64 r1.1.2, .int .i64 r1.2.1, .int .i64 r1.2.2], .cells 27 [.int .i64 r3.1.1, .int .i64 r3.1.2], .cells 27 [.int .i64 r3.2.1.1, .int .i64 r3.2.1.2], .dead, .dead]) (by kernel_rfl) ?_
  refine TI.done (by kernel_rfl) ?_
  refine NX.sq ?_
  refine TS.seq' (x := c4.s2.s2.s2.s2.s1) (y := c4.s2.s2.s2.s2.s2) (by kernel_rfl) ?_
  have hX := of_do hF
  clear hF
  obtain ⟨r7, h8, hF⟩ := hX
  refine TS.region' (id := 4) (b := false) (ops := c4.s2.s2.s2.s2.s1.rops) (by kernel_rfl) rfl ?_
  refine TI.run 1 [3, 4, 5, 6, 9, 30] [1, 2, 3] (a2 := (st 99 [(3, .pointer (some ⟨1, 0, none⟩)), (4, .pointer (some ⟨2, 0, none⟩)), (5, .pointer (some ⟨3, 0, none⟩)), (6, .int .i64 r3.2.2), (9, .int .i64 r5.2.2), (30, .agg ⟨[.int .i64 p0, .int .i64 p1, .int .i64 p2, .int .i64 p3]⟩)])) (h2 := [.dead, .cells 30 [.int .i64 r1.1.1, .int .i64 r1.1.2, .int .i64 r1.2.1, .int .i64 r1.2.2], .cells 27 [.int .i64 r3.1.1, .int .i64 r3.1.2], .cells 27 [.int .i64 r3.2.1.1, .int .i64 r3.2.1.2], .dead, .dead]) (by kernel_rfl) ?_
  refine TI.callM (g := 25) (args := [.agg ⟨[.int .i64 p0, .int .i64 p1, .int .i64 p2, .int .i64 p3]⟩]) (v := .tuple ⟨[.int .i64 r7.1, .int .i64 r7.2]⟩) (new := []) (by kernel_rfl) (PureSim.any (C25 p0 p1 p2 p3 r7 h8) (flatL (by kernel_rfl)) (by kernel_rfl) [.dead, .cells 30 [.int .i64 r1.1.1, .int .i64 r1.1.2, .int .i64 r1.2.1, .int .i64 r1.2.2], .cells 27 [.int .i64 r3.1.1, .int .i64 r3.1.2], .cells 27 [.int .i64 r3.2.1.1, .int .i64 r3.2.1.2], .dead, .dead]) [3, 4, 5, 6, 9, 31] [1, 2, 3] (a2 := (st 99 [(3, .pointer (some ⟨1, 0, none⟩)), (4, .pointer (some ⟨2, 0, none⟩)), (5, .pointer (some ⟨3, 0, none⟩)), (6, .int .i64 r3.2.2), (9, .int .i64 r5.2.2), (31, .tuple ⟨[.int .i64 r7.1, .int .i64 r7.2]⟩)])) (h2 := [.dead, .cells 30 [.int .i64 r1.1.1, .int .i64 r1.1.2, .int .i64 r1.2.1, .int .i64 r1.2.2], .cells 27 [.int .i64 r3.1.1, .int .i64 r3.1.2], .cells 27 [.int .i64 r3.2.1.1, .int .i64 r3.2.1.2], .dead, .dead]) (by kernel_rfl) ?_
  refine TI.run 5 [3, 4, 5, 6, 9, 10, 11] [1, 2, 3] (a2 := (st 99 [(3, .pointer (some ⟨1, 0, none⟩)), (4, .pointer (some ⟨2, 0, none⟩)), (5, .pointer (some ⟨3, 0, none⟩)), (6, .int .i64 r3.2.2), (9, .int .i64 r5.2.2), (10, .int .i64 r7.1), (11, .int .i64 r7.2)])) (h2 := [.dead, .cells 30 [.int .i64 r1.1.1, .int .i64 r1.1.2, .int .i64 r1.2.1, .int .i64 r1.2.2], .cells 27 [.int .i64 r3.1.1, .int .i64 r3.1.2], .cells 27 [.int .i64 r3.2.1.1, .int .i64 r3.2.1.2], .dead, .dead]) (by kernel_rfl) ?_
  refine TI.done (by kernel_rfl) ?_
  refine NX.sq ?_
  refine TS.seq' (x := c4.s2.s2.s2.s2.s2.s1) (y := c4.s2.s2.s2.s2.s2.s2) (by kernel_rfl) ?_
  have hX := of_do hF
  clear hF
  obtain ⟨r9, h10, hF⟩ := hX
  refine TS.region' (id := 5) (b := false) (ops := c4.s2.s2.s2.s2.s2.s1.rops) (by kernel_rfl) rfl ?_
  refine TI.run 1 [3, 4, 5, 6, 9, 10, 11, 35] [1, 2, 3] (a2 := (st 99 [(3, .pointer (some ⟨1, 0, none⟩)), (4, .pointer (some ⟨2, 0, none⟩)), (5, .pointer (some ⟨3, 0, none⟩)), (6, .int .i64 r3.2.2), (9, .int .i64 r5.2.2), (10, .int .i64 r7.1), (11, .int .i64 r7.2), (35, .agg ⟨[.int .i64 r1.1.1, .int .i64 r1.1.2, .int .i64 r1.2.1, .int .i64 r1.2.2]⟩)])) (h2 := [.dead, .cells 30 [.int .i64 r1.1.1, .int .i64 r1.1.2, .int .i64 r1.2.1, .int .i64 r1.2.2], .cells 27 [.int .i64 r3.1.1, .int .i64 r3.1.2], .cells 27 [.int .i64 r3.2.1.1, .int .i64 r3.2.1.2], .dead, .dead]) (by kernel_rfl) ?_
  refine TI.callM (g := 26) (args := [.agg ⟨[.int .i64 r1.1.1, .int .i64 r1.1.2, .int .i64 r1.2.1, .int .i64 r1.2.2]⟩]) (v := .tuple ⟨[.int .i64 r9.1, .int .i64 r9.2]⟩) (new := []) (by kernel_rfl) (PureSim.any (C26 r1.1.1 r1.1.2 r1.2.1 r1.2.2 r9 h10) (flatL (by kernel_rfl)) (by kernel_rfl) [.dead, .cells 30 [.int .i64 r1.1.1, .int .i64 r1.1.2, .int .i64 r1.2.1, .int .i64 r1.2.2], .cells 27 [.int .i64 r3.1.1, .int .i64 r3.1.2], .cells 27 [.int .i64 r3.2.1.1, .int .i64 r3.2.1.2], .dead, .dead]) [3, 4, 5, 6, 9, 10, 11, 36] [1, 2, 3] (a2 := (st 99 [(3, .pointer (some ⟨1, 0, none⟩)), (4, .pointer (some ⟨2, 0, none⟩)), (5, .pointer (some ⟨3, 0, none⟩)), (6, .int .i64 r3.2.2), (9, .int .i64 r5.2.2), (10, .int .i64 r7.1), (11, .int .i64 r7.2), (36, .tuple ⟨[.int .i64 r9.1, .int .i64 r9.2]⟩)])) (h2 := [.dead, .cells 30 [.int .i64 r1.1.1, .int .i64 r1.1.2, .int .i64 r1.2.1, .int .i64 r1.2.2], .cells 27 [.int .i64 r3.1.1, .int .i64 r3.1.2], .cells 27 [.int .i64 r3.2.1.1, .int .i64 r3.2.1.2], .dead, .dead]) (by kernel_rfl) ?_
  refine TI.run 5 [3, 4, 5, 6, 9, 10, 11, 12, 13] [1, 2, 3] (a2 := (st 99 [(3, .pointer (some ⟨1, 0, none⟩)), (4, .pointer (some ⟨2, 0, none⟩)), (5, .pointer (some ⟨3, 0, none⟩)), (6, .int .i64 r3.2.2), (9, .int .i64 r5.2.2), (10, .int .i64 r7.1), (11, .int .i64 r7.2), (12, .int .i64 r9.1), (13, .int .i64 r9.2)])) (h2 := [.dead, .cells 30 [.int .i64 r1.1.1, .int .i64 r1.1.2, .int .i64 r1.2.1, .int .i64 r1.2.2], .cells 27 [.int .i64 r3.1.1, .int .i64 r3.1.2], .cells 27 [.int .i64 r3.2.1.1, .int .i64 r3.2.1.2], .dead, .dead]) (by kernel_rfl) ?_
  refine TI.done (by kernel_rfl) ?_
  refine NX.sq ?_
  refine TS.seq' (x := c4.s2.s2.s2.s2.s2.s2.s1) (y := c4.s2.s2.s2.s2.s2.s2.s2) (by kernel_rfl) ?_
  refine TS.seq' (x := c4.s2.s2.s2.s2.s2.s2.s1.s1) (y := c4.s2.s2.s2.s2.s2.s2.s1.s2) (by kernel_rfl) ?_
  have hX := of_do hF
  clear hF
  obtain ⟨m13, hm34, hF⟩ := hX
  have hK : NX Try.prog 0 0 [.sq c4.s2.s2.s2.s2.s2.s2.s1.s2, .sq c4.s2.s2.s2.s2.s2.s2.s2] (FinP Try.prog Try.f4 0 (V4 0 r) (N4 0 r)) .normal (st 99 [(3, .pointer (some ⟨1, 0, none⟩)), (4, .pointer (some ⟨2, 0, none⟩)), (5, .pointer (some ⟨3, 0, none⟩)), (9, .int .i64 r5.2.2), (51, .bool m13)]) [.dead, .cells 30 [.int .i64 r1.1.1, .int .i64 r1.1.2, .int .i64 r1.2.1, .int .i64 r1.2.2], .cells 27 [.int .i64 r3.1.1, .int .i64 r3.1.2], .cells 27 [.int .i64 r3.2.1.1, .int .i64 r3.2.1.2], .dead, .dead] := by
    refine NX.sq ?_
    cases m13 with
    | true =>
      replace hF := of_pos hF rfl
      refine TS.condT' (o := (.tmp 51)) (x := c4.s2.s2.s2.s2.s2.s2.s1.s2.th) (y := c4.s2.s2.s2.s2.s2.s2.s1.s2.el) (by kernel_rfl) (by kernel_rfl) ?_
      refine TS.seq' (x := c4.s2.s2.s2.s2.s2.s2.s1.s2.th.s1) (y := c4.s2.s2.s2.s2.s2.s2.s1.s2.th.s2) (by kernel_rfl) ?_
      refine TS.region' (id := 7) (b := false) (ops := c4.s2.s2.s2.s2.s2.s2.s1.s2.th.s1.rops) (by kernel_rfl) rfl ?_
      refine TI.run 1 [2] [] (a2 := (st 99 [(2, .bool false)])) (h2 := [.dead, .dead, .dead, .dead, .dead, .dead]) (by kernel_rfl) ?_
      refine TI.done (by kernel_rfl) ?_
      refine NX.sq ?_
      refine TS.ret' (by kernel_rfl) ?_
      refine NX.sqR ?_
      have hF := Option.some.inj hF
      subst hF
      exact ⟨.inr rfl, rfl, .bool false, by kernel_rfl, WkV.flat0 (by kernel_rfl) (Nat.le_of_ble_eq_true rfl)⟩
    | false =>
      replace hF := of_neg hF rfl
      refine TS.condF' (o := (.tmp 51)) (x := c4.s2.s2.s2.s2.s2.s2.s1.s2.th) (y := c4.s2.s2.s2.s2.s2.s2.s1.s2.el) (by kernel_rfl) (by kernel_rfl) ?_
      refine TS.skip' (by kernel_rfl) ?_
      refine NX.sq ?_
      refine TS.seq' (x := c4.s2.s2.s2.s2.s2.s2.s2.s1) (y := c4.s2.s2.s2.s2.s2.s2.s2.s2) (by kernel_rfl) ?_
      refine TS.seq' (x := c4.s2.s2.s2.s2.s2.s2.s2.s1.s1) (y := c4.s2.s2.s2.s2.s2.s2.s2.s1.s2) (by kernel_rfl) ?_
      refine TS.region' (id := 8) (b := false) (ops := c4.s2.s2.s2.s2.s2.s2.s2.s1.s1.rops) (by kernel_rfl) rfl ?_
      refine TI.run 2 [3, 4, 5, 53] [1, 2, 3] (a2 := (st 99 [(3, .pointer (some ⟨1, 0, none⟩)), (4, .pointer (some ⟨2, 0, none⟩)), (5, .pointer (some ⟨3, 0, none⟩)), (53, .bool (r5.2.2 != 0))])) (h2 := [.dead, .cells 30 [.int .i64 r1.1.1, .int .i64 r1.1.2, .int .i64 r1.2.1, .int .i64 r1.2.2], .cells 27 [.int .i64 r3.1.1, .int .i64 r3.1.2], .cells 27 [.int .i64 r3.2.1.1, .int .i64 r3.2.1.2], .dead, .dead]) (by kernel_rfl) ?_
      refine TI.done (by kernel_rfl) ?_
      refine NX.sq ?_
      refine TS.cond' (o := (.tmp 53)) (x := c4.s2.s2.s2.s2.s2.s2.s2.s1.s2.th) (y := c4.s2.s2.s2.s2.s2.s2.s2.s1.s2.el) (b := r5.2.2 != 0) (by kernel_rfl) (by kernel_rfl) (fun hc14 => ?_) (fun hc14 => ?_)
      · replace hF := of_pos hF hc14
        refine TS.seq' (x := c4.s2.s2.s2.s2.s2.s2.s2.s1.s2.th.s1) (y := c4.s2.s2.s2.s2.s2.s2.s2.s1.s2.th.s2) (by kernel_rfl) ?_
        have hX := of_do hF
        clear hF
        obtain ⟨m19, hm20, hF⟩ := hX
        have hK : NX Try.prog 0 0 [.sq c4.s2.s2.s2.s2.s2.s2.s2.s1.s2.th.s2, .sq c4.s2.s2.s2.s2.s2.s2.s2.s2] (FinP Try.prog Try.f4 0 (V4 0 r) (N4 0 r)) .normal (st 99 [(2, .bool m19)]) [.dead, .dead, .dead, .dead, .dead, .dead] := by
          refine NX.sq ?_
          refine TS.ret' (by kernel_rfl) ?_
          refine NX.sqR ?_
          have hF := Option.some.inj hF
          subst hF
          exact ⟨.inr rfl, rfl, .bool m19, by kernel_rfl, WkV.flat0 (by kernel_rfl) (Nat.le_of_ble_eq_true rfl)⟩
        rcases Bool.eq_false_or_eq_true (((r3.1.1 == 0) && ((r3.1.2 == 0) && true))) with hc15 | hc15
        · replace hm20 := of_pos hm20 hc15
          rcases Bool.eq_false_or_eq_true (((r3.2.1.1 == 0) && ((r3.2.1.2 == 0) && true))) with hc16 | hc16
          · replace hm20 := of_pos hm20 hc16
            have hX := of_do hm20
            clear hm20
            obtain ⟨r17, h18, hm20⟩ := hX
            have hm20 := Option.some.inj hm20
            subst hm20
            refine TS.region' (id := 9) (b := false) (ops := c4.s2.s2.s2.s2.s2.s2.s2.s1.s2.th.s1.rops) (by kernel_rfl) rfl ?_
            refine TI.run 2 [5, 54, 55] [3] (a2 := (st 99 [(5, .pointer (some ⟨3, 0, none⟩)), (54, .agg ⟨[.int .i64 r3.1.1, .int .i64 r3.1.2]⟩), (55, .agg ⟨[.int .i64 0, .int .i64 0]⟩)])) (h2 := [.dead, .dead, .dead, .cells 27 [.int .i64 r3.2.1.1, .int .i64 r3.2.1.2], .dead, .dead]) (by kernel_rfl) ?_
            refine TI.op (q := { val := .bool true }) (q_conv (e := ((r3.1.1 == 0) && ((r3.1.2 == 0) && true))) (b := true) (by kernel_rfl) hc15) [5, 56] [3] (a2 := (st 99 [(5, .pointer (some ⟨3, 0, none⟩)), (56, .bool true)])) (h2 := [.dead, .dead, .dead, .cells 27 [.int .i64 r3.2.1.1, .int .i64 r3.2.1.2], .dead, .dead]) (by kernel_rfl) ?_
            refine TI.run 3 [57, 58, 59] [] (a2 := (st 99 [(57, .bool true), (58, .agg ⟨[.int .i64 r3.2.1.1, .int .i64 r3.2.1.2]⟩), (59, .agg ⟨[.int .i64 0, .int .i64 0]⟩)])) (h2 := [.dead, .dead, .dead, .dead, .dead, .dead]) (by kernel_rfl) ?_
            refine TI.op (q := { val := .bool true }) (q_conv (e := ((r3.2.1.1 == 0) && ((r3.2.1.2 == 0) && true))) (b := true) (by kernel_rfl) hc16) [57, 60] [] (a2 := (st 99 [(57, .bool true), (60, .bool true)])) (h2 := [.dead, .dead, .dead, .dead, .dead, .dead]) (by kernel_rfl) ?_
            refine TI.run 2 [62] [] (a2 := (st 99 [(62, .bool true)])) (h2 := [.dead, .dead, .dead, .dead, .dead, .dead]) (by kernel_rfl) ?_
            refine TI.callM (g := 22) (args := []) (v := .bool r17) (new := []) (by kernel_rfl) (PureSim.any (C22  r17 h18) (flatL (by kernel_rfl)) (by kernel_rfl) [.dead, .dead, .dead, .dead, .dead, .dead]) [62, 63] [] (a2 := (st 99 [(62, .bool true), (63, .bool r17)])) (h2 := [.dead, .dead, .dead, .dead, .dead, .dead]) (by kernel_rfl) ?_
            refine TI.run 2 [2] [] (a2 := (st 99 [(2, .bool r17)])) (h2 := [.dead, .dead, .dead, .dead, .dead, .dead]) (by kernel_rfl) ?_
            refine TI.done (by kernel_rfl) ?_
            exact hK
          · replace hm20 := of_neg hm20 hc16
            have hm20 := Option.some.inj hm20
            subst hm20
            refine TS.region' (id := 9) (b := false) (ops := c4.s2.s2.s2.s2.s2.s2.s2.s1.s2.th.s1.rops) (by kernel_rfl) rfl ?_
            refine TI.run 2 [5, 54, 55] [3] (a2 := (st 99 [(5, .pointer (some ⟨3, 0, none⟩)), (54, .agg ⟨[.int .i64 r3.1.1, .int .i64 r3.1.2]⟩), (55, .agg ⟨[.int .i64 0, .int .i64 0]⟩)])) (h2 := [.dead, .dead, .dead, .cells 27 [.int .i64 r3.2.1.1, .int .i64 r3.2.1.2], .dead, .dead]) (by kernel_rfl) ?_
            refine TI.op (q := { val := .bool true }) (q_conv (e := ((r3.1.1 == 0) && ((r3.1.2 == 0) && true))) (b := true) (by kernel_rfl) hc15) [5, 56] [3] (a2 := (st 99 [(5, .pointer (some ⟨3, 0, none⟩)), (56, .bool true)])) (h2 := [.dead, .dead, .dead, .cells 27 [.int .i64 r3.2.1.1, .int .i64 r3.2.1.2], .dead, .dead]) (by kernel_rfl) ?_
            refine TI.run 3 [57, 58, 59] [] (a2 := (st 99 [(57, .bool true), (58, .agg ⟨[.int .i64 r3.2.1.1, .int .i64 r3.2.1.2]⟩), (59, .agg ⟨[.int .i64 0, .int .i64 0]⟩)])) (h2 := [.dead, .dead, .dead, .dead, .dead, .dead]) (by kernel_rfl) ?_
            refine TI.op (q := { val := .bool false }) (q_conv (e := ((r3.2.1.1 == 0) && ((r3.2.1.2 == 0) && true))) (b := false) (by kernel_rfl) hc16) [57, 60] [] (a2 := (st 99 [(57, .bool true), (60, .bool false)])) (h2 := [.dead, .dead, .dead, .dead, .dead, .dead]) (by kernel_rfl) ?_
            refine TI.run 5 [2] [] (a2 := (st 99 [(2, .bool false)])) (h2 := [.dead, .dead, .dead, .dead, .dead, .dead]) (by kernel_rfl) ?_
            refine TI.done (by kernel_rfl) ?_
            exact hK
        · replace hm20 := of_neg hm20 hc15
          have hm20 := Option.some.inj hm20
          subst hm20
          refine TS.region' (id := 9) (b := false) (ops := c4.s2.s2.s2.s2.s2.s2.s2.s1.s2.th.s1.rops) (by kernel_rfl) rfl ?_
          refine TI.run 2 [5, 54, 55] [3] (a2 := (st 99 [(5, .pointer (some ⟨3, 0, none⟩)), (54, .agg ⟨[.int .i64 r3.1.1, .int .i64 r3.1.2]⟩), (55, .agg ⟨[.int .i64 0, .int .i64 0]⟩)])) (h2 := [.dead, .dead, .dead, .cells 27 [.int .i64 r3.2.1.1, .int .i64 r3.2.1.2], .dead, .dead]) (by kernel_rfl) ?_
          refine TI.op (q := { val := .bool false }) (q_conv (e := ((r3.1.1 == 0) && ((r3.1.2 == 0) && true))) (b := false) (by kernel_rfl) hc15) [5, 56] [3] (a2 := (st 99 [(5, .pointer (some ⟨3, 0, none⟩)), (56, .bool false)])) (h2 := [.dead, .dead, .dead, .cells 27 [.int .i64 r3.2.1.1, .int .i64 r3.2.1.2], .dead, .dead]) (by kernel_rfl) ?_
          refine TI.run 9 [2] [] (a2 := (st 99 [(2, .bool false)])) (h2 := [.dead, .dead, .dead, .dead, .dead, .dead]) (by kernel_rfl) ?_
          refine TI.done (by kernel_rfl) ?_
          exact hK
      · replace hF := of_neg hF hc14
        refine TS.skip' (by kernel_rfl) ?_
        refine NX.sq ?_
        refine TS.seq' (x := c4.s2.s2.s2.s2.s2.s2.s2.s2.s1) (y := c4.s2.s2.s2.s2.s2.s2.s2.s2.s2) (by kernel_rfl) ?_
        have hX := of_do hF
        clear hF
        obtain ⟨o21, h22, hF⟩ := hX
        replace h22 := Option.some.inj h22
        refine TS.region' (id := 10) (b := false) (ops := c4.s2.s2.s2.s2.s2.s2.s2.s2.s1.rops) (by kernel_rfl) rfl ?_
        refine TI.run 20 [3, 4, 5, 66, 69, 71, 74, 76, 79, 81, 84] [1, 2, 3] (a2 := (st 99 [(3, .pointer (some ⟨1, 0, none⟩)), (4, .pointer (some ⟨2, 0, none⟩)), (5, .pointer (some ⟨3, 0, none⟩)), (66, .int .i64 r3.1.1), (69, .int .i64 (w64 (0 - r3.1.1))), (71, .int .i64 r3.1.2), (74, .int .i64 (w64 (0 - r3.1.2))), (76, .int .i64 r3.2.1.1), (79, .int .i64 (w64 (0 - r3.2.1.1))), (81, .int .i64 r3.2.1.2), (84, .int .i64 (w64 (0 - r3.2.1.2)))])) (h2 := [.dead, .cells 30 [.int .i64 r1.1.1, .int .i64 r1.1.2, .int .i64 r1.2.1, .int .i64 r1.2.2], .cells 27 [.int .i64 r3.1.1, .int .i64 r3.1.2], .cells 27 [.int .i64 r3.2.1.1, .int .i64 r3.2.1.2], .dead, .dead]) (by kernel_rfl) ?_
        refine TI.op (q := { val := .int .i64 o21 }) (q_convI (e := mx (mx (mx (mx (mx (mx (mx r3.1.1 (w64 (0 - r3.1.1))) r3.1.2) (w64 (0 - r3.1.2))) r3.2.1.1) (w64 (0 - r3.2.1.1))) r3.2.1.2) (w64 (0 - r3.2.1.2))) (y := o21) (by kernel_rfl) h22) [3, 4, 5, 85] [1, 2, 3] (a2 := (st 99 [(3, .pointer (some ⟨1, 0, none⟩)), (4, .pointer (some ⟨2, 0, none⟩)), (5, .pointer (some ⟨3, 0, none⟩)), (85, .int .i64 o21)])) (h2 := [.dead, .cells 30 [.int .i64 r1.1.1, .int .i64 r1.1.2, .int .i64 r1.2.1, .int .i64 r1.2.2], .cells 27 [.int .i64 r3.1.1, .int .i64 r3.1.2], .cells 27 [.int .i64 r3.2.1.1, .int .i64 r3.2.1.2], .dead, .dead]) (by kernel_rfl) ?_
        refine TI.run 1 [3, 4, 5, 14] [1, 2, 3] (a2 := (st 99 [(3, .pointer (some ⟨1, 0, none⟩)), (4, .pointer (some ⟨2, 0, none⟩)), (5, .pointer (some ⟨3, 0, none⟩)), (14, .int .i64 o21)])) (h2 := [.dead, .cells 30 [.int .i64 r1.1.1, .int .i64 r1.1.2, .int .i64 r1.2.1, .int .i64 r1.2.2], .cells 27 [.int .i64 r3.1.1, .int .i64 r3.1.2], .cells 27 [.int .i64 r3.2.1.1, .int .i64 r3.2.1.2], .dead, .dead]) (by kernel_rfl) ?_
        refine TI.done (by kernel_rfl) ?_
        refine NX.sq ?_
        refine TS.seq' (x := c4.s2.s2.s2.s2.s2.s2.s2.s2.s2.s1) (y := c4.s2.s2.s2.s2.s2.s2.s2.s2.s2.s2) (by kernel_rfl) ?_
        have hX := of_do hF
        clear hF
        obtain ⟨m32, hm33, hF⟩ := hX
        have hK : NX Try.prog 0 0 [.sq c4.s2.s2.s2.s2.s2.s2.s2.s2.s2.s2] (FinP Try.prog Try.f4 0 (V4 0 r) (N4 0 r)) .normal (st 99 [(2, .bool m32)]) [.dead, .dead, .dead, .dead, .dead, .dead] := by
          refine NX.sq ?_
          refine TS.ret' (by kernel_rfl) ?_
          have hF := Option.some.inj hF
          subst hF
          exact ⟨.inr rfl, rfl, .bool m32, by kernel_rfl, WkV.flat0 (by kernel_rfl) (Nat.le_of_ble_eq_true rfl)⟩
        rcases Bool.eq_false_or_eq_true (decide (o21 ≤ 100000000)) with hc23 | hc23
        · replace hm33 := of_pos hm33 hc23
          have hX := of_do hm33
          clear hm33
          obtain ⟨r24, h25, hm33⟩ := hX
          have hX := of_do hm33
          clear hm33
          obtain ⟨r26, h27, hm33⟩ := hX
          have hX := of_do hm33
          clear hm33
          obtain ⟨r28, h29, hm33⟩ := hX
          cases r28 with
          | true =>
            replace hm33 := of_pos hm33 rfl
            have hX := of_do hm33
            clear hm33
            obtain ⟨r30, h31, hm33⟩ := hX
            have hm33 := Option.some.inj hm33
            subst hm33
            have hT : ∀ e ∈ ([⟨19, [.agg ⟨[.int .i64 r3.1.1, .int .i64 r3.1.2]⟩], [.dead, .cells 30 [.int .i64 r1.1.1, .int .i64 r1.1.2, .int .i64 r1.2.1, .int .i64 r1.2.2], .cells 27 [.int .i64 r3.1.1, .int .i64 r3.1.2], .cells 27 [.int .i64 r3.2.1.1, .int .i64 r3.2.1.2], .dead, .dead], .agg ⟨[.int .i64 r24.1, .int .i64 r24.2]⟩, []⟩, ⟨19, [.agg ⟨[.int .i64 r3.2.1.1, .int .i64 r3.2.1.2]⟩], [.dead, .cells 30 [.int .i64 r1.1.1, .int .i64 r1.1.2, .int .i64 r1.2.1, .int .i64 r1.2.2], .cells 27 [.int .i64 r3.1.1, .int .i64 r3.1.2], .cells 27 [.int .i64 r3.2.1.1, .int .i64 r3.2.1.2], .dead, .dead], .agg ⟨[.int .i64 r26.1, .int .i64 r26.2]⟩, []⟩, ⟨27, [.agg ⟨[.int .i64 r1.1.1, .int .i64 r1.1.2, .int .i64 r1.2.1, .int .i64 r1.2.2]⟩, .agg ⟨[.int .i64 r24.1, .int .i64 r24.2]⟩, .agg ⟨[.int .i64 r26.1, .int .i64 r26.2]⟩], [.dead, .cells 30 [.int .i64 r1.1.1, .int .i64 r1.1.2, .int .i64 r1.2.1, .int .i64 r1.2.2], .cells 27 [.int .i64 r3.1.1, .int .i64 r3.1.2], .cells 27 [.int .i64 r3.2.1.1, .int .i64 r3.2.1.2], .dead, .dead], .bool true, []⟩, ⟨22, [], [.dead, .cells 30 [.int .i64 r1.1.1, .int .i64 r1.1.2, .int .i64 r1.2.1, .int .i64 r1.2.2], .cells 27 [.int .i64 r3.1.1, .int .i64 r3.1.2], .cells 27 [.int .i64 r3.2.1.1, .int .i64 r3.2.1.2], .dead, .dead], .bool r30, []⟩] : List Entry), PureSim Try.prog e.g e.args e.h e.v e.new := by
              intro e he
              simp only [List.mem_cons, List.not_mem_nil, or_false] at he
              rcases he with rfl | rfl | rfl | rfl
              · exact (PureSim.any (C19 r3.1.1 r3.1.2 r24 h25) (flatL (by kernel_rfl)) (by kernel_rfl) [.dead, .cells 30 [.int .i64 r1.1.1, .int .i64 r1.1.2, .int .i64 r1.2.1, .int .i64 r1.2.2], .cells 27 [.int .i64 r3.1.1, .int .i64 r3.1.2], .cells 27 [.int .i64 r3.2.1.1, .int .i64 r3.2.1.2], .dead, .dead])
              · exact (PureSim.any (C19 r3.2.1.1 r3.2.1.2 r26 h27) (flatL (by kernel_rfl)) (by kernel_rfl) [.dead, .cells 30 [.int .i64 r1.1.1, .int .i64 r1.1.2, .int .i64 r1.2.1, .int .i64 r1.2.2], .cells 27 [.int .i64 r3.1.1, .int .i64 r3.1.2], .cells 27 [.int .i64 r3.2.1.1, .int .i64 r3.2.1.2], .dead, .dead])
              · exact (PureSim.any (C27 r1.1.1 r1.1.2 r1.2.1 r1.2.2 r24.1 r24.2 r26.1 r26.2 true h29) (flatL (by kernel_rfl)) (by kernel_rfl) [.dead, .cells 30 [.int .i64 r1.1.1, .int .i64 r1.1.2, .int .i64 r1.2.1, .int .i64 r1.2.2], .cells 27 [.int .i64 r3.1.1, .int .i64 r3.1.2], .cells 27 [.int .i64 r3.2.1.1, .int .i64 r3.2.1.2], .dead, .dead])
              · exact (PureSim.any (C22  r30 h31) (flatL (by kernel_rfl)) (by kernel_rfl) [.dead, .cells 30 [.int .i64 r1.1.1, .int .i64 r1.1.2, .int .i64 r1.2.1, .int .i64 r1.2.2], .cells 27 [.int .i64 r3.1.1, .int .i64 r3.1.2], .cells 27 [.int .i64 r3.2.1.1, .int .i64 r3.2.1.2], .dead, .dead])
            refine TS.draw' (id := 11) (b := true) (ops := c4.s2.s2.s2.s2.s2.s2.s2.s2.s2.s1.rops) (fin := ({ act := (st 99 [(3, .pointer (some ⟨1, 0, none⟩)), (4, .pointer (some ⟨2, 0, none⟩)), (5, .pointer (some ⟨3, 0, none⟩)), (14, .int .i64 o21), (86, .int .i64 o21), (87, .bool true), (88, .bool true), (89, .agg ⟨[.int .i64 r1.1.1, .int .i64 r1.1.2, .int .i64 r1.2.1, .int .i64 r1.2.2]⟩), (90, .agg ⟨[.int .i64 r3.1.1, .int .i64 r3.1.2]⟩), (91, .agg ⟨[.int .i64 r24.1, .int .i64 r24.2]⟩), (92, .agg ⟨[.int .i64 r3.2.1.1, .int .i64 r3.2.1.2]⟩), (93, .agg ⟨[.int .i64 r26.1, .int .i64 r26.2]⟩)]), heap := [.dead, .cells 30 [.int .i64 r1.1.1, .int .i64 r1.1.2, .int .i64 r1.2.1, .int .i64 r1.2.2], .cells 27 [.int .i64 r3.1.1, .int .i64 r3.1.2], .cells 27 [.int .i64 r3.2.1.1, .int .i64 r3.2.1.2], .dead, .dead], own := [], upds := [] } : QSt)) (fin2 := ({ act := (st 99 [(3, .pointer (some ⟨1, 0, none⟩)), (4, .pointer (some ⟨2, 0, none⟩)), (5, .pointer (some ⟨3, 0, none⟩)), (14, .int .i64 o21), (86, .int .i64 o21), (87, .bool true), (88, .bool true), (89, .agg ⟨[.int .i64 r1.1.1, .int .i64 r1.1.2, .int .i64 r1.2.1, .int .i64 r1.2.2]⟩), (90, .agg ⟨[.int .i64 r3.1.1, .int .i64 r3.1.2]⟩), (91, .agg ⟨[.int .i64 r24.1, .int .i64 r24.2]⟩), (92, .agg ⟨[.int .i64 r3.2.1.1, .int .i64 r3.2.1.2]⟩), (93, .agg ⟨[.int .i64 r26.1, .int .i64 r26.2]⟩)]), heap := [.dead, .cells 30 [.int .i64 r1.1.1, .int .i64 r1.1.2, .int .i64 r1.2.1, .int .i64 r1.2.2], .cells 27 [.int .i64 r3.1.1, .int .i64 r3.1.2], .cells 27 [.int .i64 r3.2.1.1, .int .i64 r3.2.1.2], .dead, .dead], own := [], upds := [] } : QSt)) (a1 := (st 99 [(2, .bool r30), (3, .pointer (some ⟨1, 0, none⟩)), (4, .pointer (some ⟨2, 0, none⟩)), (5, .pointer (some ⟨3, 0, none⟩)), (14, .int .i64 o21), (86, .int .i64 o21), (87, .bool true), (88, .bool true), (89, .agg ⟨[.int .i64 r1.1.1, .int .i64 r1.1.2, .int .i64 r1.2.1, .int .i64 r1.2.2]⟩), (90, .agg ⟨[.int .i64 r3.1.1, .int .i64 r3.1.2]⟩), (91, .agg ⟨[.int .i64 r24.1, .int .i64 r24.2]⟩), (92, .agg ⟨[.int .i64 r3.2.1.1, .int .i64 r3.2.1.2]⟩), (93, .agg ⟨[.int .i64 r26.1, .int .i64 r26.2]⟩), (94, .bool true), (95, .bool true), (96, .bool true), (97, .bool r30), (98, .bool r30)])) (h1 := [.dead, .cells 30 [.int .i64 r1.1.1, .int .i64 r1.1.2, .int .i64 r1.2.1, .int .i64 r1.2.2], .cells 27 [.int .i64 r3.1.1, .int .i64 r3.1.2], .cells 27 [.int .i64 r3.2.1.1, .int .i64 r3.2.1.2], .dead, .dead]) (a2 := (st 99 [(2, .bool r30)])) (h2 := [.dead, .dead, .dead, .dead, .dead, .dead]) [⟨19, [.agg ⟨[.int .i64 r3.1.1, .int .i64 r3.1.2]⟩], [.dead, .cells 30 [.int .i64 r1.1.1, .int .i64 r1.1.2, .int .i64 r1.2.1, .int .i64 r1.2.2], .cells 27 [.int .i64 r3.1.1, .int .i64 r3.1.2], .cells 27 [.int .i64 r3.2.1.1, .int .i64 r3.2.1.2], .dead, .dead], .agg ⟨[.int .i64 r24.1, .int .i64 r24.2]⟩, []⟩, ⟨19, [.agg ⟨[.int .i64 r3.2.1.1, .int .i64 r3.2.1.2]⟩], [.dead, .cells 30 [.int .i64 r1.1.1, .int .i64 r1.1.2, .int .i64 r1.2.1, .int .i64 r1.2.2], .cells 27 [.int .i64 r3.1.1, .int .i64 r3.1.2], .cells 27 [.int .i64 r3.2.1.1, .int .i64 r3.2.1.2], .dead, .dead], .agg ⟨[.int .i64 r26.1, .int .i64 r26.2]⟩, []⟩, ⟨27, [.agg ⟨[.int .i64 r1.1.1, .int .i64 r1.1.2, .int .i64 r1.2.1, .int .i64 r1.2.2]⟩, .agg ⟨[.int .i64 r24.1, .int .i64 r24.2]⟩, .agg ⟨[.int .i64 r26.1, .int .i64 r26.2]⟩], [.dead, .cells 30 [.int .i64 r1.1.1, .int .i64 r1.1.2, .int .i64 r1.2.1, .int .i64 r1.2.2], .cells 27 [.int .i64 r3.1.1, .int .i64 r3.1.2], .cells 27 [.int .i64 r3.2.1.1, .int .i64 r3.2.1.2], .dead, .dead], .bool true, []⟩, ⟨22, [], [.dead, .cells 30 [.int .i64 r1.1.1, .int .i64 r1.1.2, .int .i64 r1.2.1, .int .i64 r1.2.2], .cells 27 [.int .i64 r3.1.1, .int .i64 r3.1.2], .cells 27 [.int .i64 r3.2.1.1, .int .i64 r3.2.1.2], .dead, .dead], .bool r30, []⟩] hT mixed (by kernel_rfl) rfl 8 (by kernel_rfl) [] ?_ rfl (.inl ⟨rfl, rfl⟩) ?_ [2] [] (by kernel_rfl) ?_
            · refine QI.run (s1 := ({ act := (st 99 [(3, .pointer (some ⟨1, 0, none⟩)), (4, .pointer (some ⟨2, 0, none⟩)), (5, .pointer (some ⟨3, 0, none⟩)), (14, .int .i64 o21), (86, .int .i64 o21)]), heap := [.dead, .cells 30 [.int .i64 r1.1.1, .int .i64 r1.1.2, .int .i64 r1.2.1, .int .i64 r1.2.2], .cells 27 [.int .i64 r3.1.1, .int .i64 r3.1.2], .cells 27 [.int .i64 r3.2.1.1, .int .i64 r3.2.1.2], .dead, .dead], own := [], upds := [] } : QSt)) 1 (by kernel_rfl) (by kernel_rfl) ?_
              refine QI.op (q := { val := .bool true }) (s1 := ({ act := (st 99 [(3, .pointer (some ⟨1, 0, none⟩)), (4, .pointer (some ⟨2, 0, none⟩)), (5, .pointer (some ⟨3, 0, none⟩)), (14, .int .i64 o21), (86, .int .i64 o21), (87, .bool true)]), heap := [.dead, .cells 30 [.int .i64 r1.1.1, .int .i64 r1.1.2, .int .i64 r1.2.1, .int .i64 r1.2.2], .cells 27 [.int .i64 r3.1.1, .int .i64 r3.1.2], .cells 27 [.int .i64 r3.2.1.1, .int .i64 r3.2.1.2], .dead, .dead], own := [], upds := [] } : QSt)) (by decide) (q_conv (e := decide (o21 ≤ 100000000)) (b := true) (by kernel_rfl) hc23) (by kernel_rfl) ?_
              refine QI.run (s1 := ({ act := (st 99 [(3, .pointer (some ⟨1, 0, none⟩)), (4, .pointer (some ⟨2, 0, none⟩)), (5, .pointer (some ⟨3, 0, none⟩)), (14, .int .i64 o21), (86, .int .i64 o21), (87, .bool true), (88, .bool true), (89, .agg ⟨[.int .i64 r1.1.1, .int .i64 r1.1.2, .int .i64 r1.2.1, .int .i64 r1.2.2]⟩), (90, .agg ⟨[.int .i64 r3.1.1, .int .i64 r3.1.2]⟩)]), heap := [.dead, .cells 30 [.int .i64 r1.1.1, .int .i64 r1.1.2, .int .i64 r1.2.1, .int .i64 r1.2.2], .cells 27 [.int .i64 r3.1.1, .int .i64 r3.1.2], .cells 27 [.int .i64 r3.2.1.1, .int .i64 r3.2.1.2], .dead, .dead], own := [], upds := [] } : QSt)) 3 (by kernel_rfl) (by kernel_rfl) ?_
              refine QI.op (q := { val := .agg ⟨[.int .i64 r24.1, .int .i64 r24.2]⟩, new := [] }) (s1 := ({ act := (st 99 [(3, .pointer (some ⟨1, 0, none⟩)), (4, .pointer (some ⟨2, 0, none⟩)), (5, .pointer (some ⟨3, 0, none⟩)), (14, .int .i64 o21), (86, .int .i64 o21), (87, .bool true), (88, .bool true), (89, .agg ⟨[.int .i64 r1.1.1, .int .i64 r1.1.2, .int .i64 r1.2.1, .int .i64 r1.2.2]⟩), (90, .agg ⟨[.int .i64 r3.1.1, .int .i64 r3.1.2]⟩), (91, .agg ⟨[.int .i64 r24.1, .int .i64 r24.2]⟩)]), heap := [.dead, .cells 30 [.int .i64 r1.1.1, .int .i64 r1.1.2, .int .i64 r1.2.1, .int .i64 r1.2.2], .cells 27 [.int .i64 r3.1.1, .int .i64 r3.1.2], .cells 27 [.int .i64 r3.2.1.1, .int .i64 r3.2.1.2], .dead, .dead], own := [], upds := [] } : QSt)) (by decide) (qOf_call (g := 19) (args := [.agg ⟨[.int .i64 r3.1.1, .int .i64 r3.1.2]⟩]) (by kernel_rfl) lookC_hit) (by kernel_rfl) ?_
              refine QI.run (s1 := ({ act := (st 99 [(3, .pointer (some ⟨1, 0, none⟩)), (4, .pointer (some ⟨2, 0, none⟩)), (5, .pointer (some ⟨3, 0, none⟩)), (14, .int .i64 o21), (86, .int .i64 o21), (87, .bool true), (88, .bool true), (89, .agg ⟨[.int .i64 r1.1.1, .int .i64 r1.1.2, .int .i64 r1.2.1, .int .i64 r1.2.2]⟩), (90, .agg ⟨[.int .i64 r3.1.1, .int .i64 r3.1.2]⟩), (91, .agg ⟨[.int .i64 r24.1, .int .i64 r24.2]⟩), (92, .agg ⟨[.int .i64 r3.2.1.1, .int .i64 r3.2.1.2]⟩)]), heap := [.dead, .cells 30 [.int .i64 r1.1.1, .int .i64 r1.1.2, .int .i64 r1.2.1, .int .i64 r1.2.2], .cells 27 [.int .i64 r3.1.1, .int .i64 r3.1.2], .cells 27 [.int .i64 r3.2.1.1, .int .i64 r3.2.1.2], .dead, .dead], own := [], upds := [] } : QSt)) 1 (by kernel_rfl) (by kernel_rfl) ?_
              refine QI.op (q := { val := .agg ⟨[.int .i64 r26.1, .int .i64 r26.2]⟩, new := [] }) (s1 := ({ act := (st 99 [(3, .pointer (some ⟨1, 0, none⟩)), (4, .pointer (some ⟨2, 0, none⟩)), (5, .pointer (some ⟨3, 0, none⟩)), (14, .int .i64 o21), (86, .int .i64 o21), (87, .bool true), (88, .bool true), (89, .agg ⟨[.int .i64 r1.1.1, .int .i64 r1.1.2, .int .i64 r1.2.1, .int .i64 r1.2.2]⟩), (90, .agg ⟨[.int .i64 r3.1.1, .int .i64 r3.1.2]⟩), (91, .agg ⟨[.int .i64 r24.1, .int .i64 r24.2]⟩), (92, .agg ⟨[.int .i64 r3.2.1.1, .int .i64 r3.2.1.2]⟩), (93, .agg ⟨[.int .i64 r26.1, .int .i64 r26.2]⟩)]), heap := [.dead, .cells 30 [.int .i64 r1.1.1, .int .i64 r1.1.2, .int .i64 r1.2.1, .int .i64 r1.2.2], .cells 27 [.int .i64 r3.1.1, .int .i64 r3.1.2], .cells 27 [.int .i64 r3.2.1.1, .int .i64 r3.2.1.2], .dead, .dead], own := [], upds := [] } : QSt)) (by decide) (qOf_call (g := 19) (args := [.agg ⟨[.int .i64 r3.2.1.1, .int .i64 r3.2.1.2]⟩]) (by kernel_rfl) (lookC_skip (by intro _ ha _; have hq := h25; have hi := h27; clear hF; first | (exfalso; simp at ha; done) | ((try simp at ha); have hr := Option.some.inj (hq.symm.trans (Eq.trans (by first | rfl | (congr 1 <;> first | rfl | omega | simp_all)) hi)); subst hr; rfl)) lookC_hit)) (by kernel_rfl) ?_
              exact QI.done (by kernel_rfl)
            · refine SI.op (q := { val := .bool true, new := [] }) (a2 := (st 99 [(3, .pointer (some ⟨1, 0, none⟩)), (4, .pointer (some ⟨2, 0, none⟩)), (5, .pointer (some ⟨3, 0, none⟩)), (14, .int .i64 o21), (86, .int .i64 o21), (87, .bool true), (88, .bool true), (89, .agg ⟨[.int .i64 r1.1.1, .int .i64 r1.1.2, .int .i64 r1.2.1, .int .i64 r1.2.2]⟩), (90, .agg ⟨[.int .i64 r3.1.1, .int .i64 r3.1.2]⟩), (91, .agg ⟨[.int .i64 r24.1, .int .i64 r24.2]⟩), (92, .agg ⟨[.int .i64 r3.2.1.1, .int .i64 r3.2.1.2]⟩), (93, .agg ⟨[.int .i64 r26.1, .int .i64 r26.2]⟩), (94, .bool true)])) (h2 := [.dead, .cells 30 [.int .i64 r1.1.1, .int .i64 r1.1.2, .int .i64 r1.2.1, .int .i64 r1.2.2], .cells 27 [.int .i64 r3.1.1, .int .i64 r3.1.2], .cells 27 [.int .i64 r3.2.1.1, .int .i64 r3.2.1.2], .dead, .dead]) (by kernel_rfl) (qOf_call (g := 27) (args := [.agg ⟨[.int .i64 r1.1.1, .int .i64 r1.1.2, .int .i64 r1.2.1, .int .i64 r1.2.2]⟩, .agg ⟨[.int .i64 r24.1, .int .i64 r24.2]⟩, .agg ⟨[.int .i64 r26.1, .int .i64 r26.2]⟩]) (by kernel_rfl) (lookC_skip (fun hg => absurd (show (19 : Nat) = 27 from hg) (by decide)) (lookC_skip (fun hg => absurd (show (19 : Nat) = 27 from hg) (by decide)) lookC_hit))) (by kernel_rfl) (by kernel_rfl) ?_
              refine SI.run (a2 := (st 99 [(3, .pointer (some ⟨1, 0, none⟩)), (4, .pointer (some ⟨2, 0, none⟩)), (5, .pointer (some ⟨3, 0, none⟩)), (14, .int .i64 o21), (86, .int .i64 o21), (87, .bool true), (88, .bool true), (89, .agg ⟨[.int .i64 r1.1.1, .int .i64 r1.1.2, .int .i64 r1.2.1, .int .i64 r1.2.2]⟩), (90, .agg ⟨[.int .i64 r3.1.1, .int .i64 r3.1.2]⟩), (91, .agg ⟨[.int .i64 r24.1, .int .i64 r24.2]⟩), (92, .agg ⟨[.int .i64 r3.2.1.1, .int .i64 r3.2.1.2]⟩), (93, .agg ⟨[.int .i64 r26.1, .int .i64 r26.2]⟩), (94, .bool true), (95, .bool true), (96, .bool true)])) (h2 := [.dead, .cells 30 [.int .i64 r1.1.1, .int .i64 r1.1.2, .int .i64 r1.2.1, .int .i64 r1.2.2], .cells 27 [.int .i64 r3.1.1, .int .i64 r3.1.2], .cells 27 [.int .i64 r3.2.1.1, .int .i64 r3.2.1.2], .dead, .dead]) 2 (by kernel_rfl) ?_
              refine SI.op (q := { val := .bool r30, new := [] }) (a2 := (st 99 [(3, .pointer (some ⟨1, 0, none⟩)), (4, .pointer (some ⟨2, 0, none⟩)), (5, .pointer (some ⟨3, 0, none⟩)), (14, .int .i64 o21), (86, .int .i64 o21), (87, .bool true), (88, .bool true), (89, .agg ⟨[.int .i64 r1.1.1, .int .i64 r1.1.2, .int .i64 r1.2.1, .int .i64 r1.2.2]⟩), (90, .agg ⟨[.int .i64 r3.1.1, .int .i64 r3.1.2]⟩), (91, .agg ⟨[.int .i64 r24.1, .int .i64 r24.2]⟩), (92, .agg ⟨[.int .i64 r3.2.1.1, .int .i64 r3.2.1.2]⟩), (93, .agg ⟨[.int .i64 r26.1, .int .i64 r26.2]⟩), (94, .bool true), (95, .bool true), (96, .bool true), (97, .bool r30)])) (h2 := [.dead, .cells 30 [.int .i64 r1.1.1, .int .i64 r1.1.2, .int .i64 r1.2.1, .int .i64 r1.2.2], .cells 27 [.int .i64 r3.1.1, .int .i64 r3.1.2], .cells 27 [.int .i64 r3.2.1.1, .int .i64 r3.2.1.2], .dead, .dead]) (by kernel_rfl) (qOf_call (g := 22) (args := []) (by kernel_rfl) (lookC_skip (fun hg => absurd (show (19 : Nat) = 22 from hg) (by decide)) (lookC_skip (fun hg => absurd (show (19 : Nat) = 22 from hg) (by decide)) (lookC_skip (fun hg => absurd (show (27 : Nat) = 22 from hg) (by decide)) lookC_hit)))) (by kernel_rfl) (by kernel_rfl) ?_
              refine SI.run (a2 := (st 99 [(2, .bool r30), (3, .pointer (some ⟨1, 0, none⟩)), (4, .pointer (some ⟨2, 0, none⟩)), (5, .pointer (some ⟨3, 0, none⟩)), (14, .int .i64 o21), (86, .int .i64 o21), (87, .bool true), (88, .bool true), (89, .agg ⟨[.int .i64 r1.1.1, .int .i64 r1.1.2, .int .i64 r1.2.1, .int .i64 r1.2.2]⟩), (90, .agg ⟨[.int .i64 r3.1.1, .int .i64 r3.1.2]⟩), (91, .agg ⟨[.int .i64 r24.1, .int .i64 r24.2]⟩), (92, .agg ⟨[.int .i64 r3.2.1.1, .int .i64 r3.2.1.2]⟩), (93, .agg ⟨[.int .i64 r26.1, .int .i64 r26.2]⟩), (94, .bool true), (95, .bool true), (96, .bool true), (97, .bool r30), (98, .bool r30)])) (h2 := [.dead, .cells 30 [.int .i64 r1.1.1, .int .i64 r1.1.2, .int .i64 r1.2.1, .int .i64 r1.2.2], .cells 27 [.int .i64 r3.1.1, .int .i64 r3.1.2], .cells 27 [.int .i64 r3.2.1.1, .int .i64 r3.2.1.2], .dead, .dead]) 2 (by kernel_rfl) ?_
              exact SI.done (by kernel_rfl)
            exact hK
          | false =>
            replace hm33 := of_neg hm33 rfl
            have hm33 := Option.some.inj hm33
            subst hm33
            have hT : ∀ e ∈ ([⟨19, [.agg ⟨[.int .i64 r3.1.1, .int .i64 r3.1.2]⟩], [.dead, .cells 30 [.int .i64 r1.1.1, .int .i64 r1.1.2, .int .i64 r1.2.1, .int .i64 r1.2.2], .cells 27 [.int .i64 r3.1.1, .int .i64 r3.1.2], .cells 27 [.int .i64 r3.2.1.1, .int .i64 r3.2.1.2], .dead, .dead], .agg ⟨[.int .i64 r24.1, .int .i64 r24.2]⟩, []⟩, ⟨19, [.agg ⟨[.int .i64 r3.2.1.1, .int .i64 r3.2.1.2]⟩], [.dead, .cells 30 [.int .i64 r1.1.1, .int .i64 r1.1.2, .int .i64 r1.2.1, .int .i64 r1.2.2], .cells 27 [.int .i64 r3.1.1, .int .i64 r3.1.2], .cells 27 [.int .i64 r3.2.1.1, .int .i64 r3.2.1.2], .dead, .dead], .agg ⟨[.int .i64 r26.1, .int .i64 r26.2]⟩, []⟩, ⟨27, [.agg ⟨[.int .i64 r1.1.1, .int .i64 r1.1.2, .int .i64 r1.2.1, .int .i64 r1.2.2]⟩, .agg ⟨[.int .i64 r24.1, .int .i64 r24.2]⟩, .agg ⟨[.int .i64 r26.1, .int .i64 r26.2]⟩], [.dead, .cells 30 [.int .i64 r1.1.1, .int .i64 r1.1.2, .int .i64 r1.2.1, .int .i64 r1.2.2], .cells 27 [.int .i64 r3.1.1, .int .i64 r3.1.2], .cells 27 [.int .i64 r3.2.1.1, .int .i64 r3.2.1.2], .dead, .dead], .bool false, []⟩] : List Entry), PureSim Try.prog e.g e.args e.h e.v e.new := by
              intro e he
              simp only [List.mem_cons, List.not_mem_nil, or_false] at he
              rcases he with rfl | rfl | rfl
              · exact (PureSim.any (C19 r3.1.1 r3.1.2 r24 h25) (flatL (by kernel_rfl)) (by kernel_rfl) [.dead, .cells 30 [.int .i64 r1.1.1, .int .i64 r1.1.2, .int .i64 r1.2.1, .int .i64 r1.2.2], .cells 27 [.int .i64 r3.1.1, .int .i64 r3.1.2], .cells 27 [.int .i64 r3.2.1.1, .int .i64 r3.2.1.2], .dead, .dead])
              · exact (PureSim.any (C19 r3.2.1.1 r3.2.1.2 r26 h27) (flatL (by kernel_rfl)) (by kernel_rfl) [.dead, .cells 30 [.int .i64 r1.1.1, .int .i64 r1.1.2, .int .i64 r1.2.1, .int .i64 r1.2.2], .cells 27 [.int .i64 r3.1.1, .int .i64 r3.1.2], .cells 27 [.int .i64 r3.2.1.1, .int .i64 r3.2.1.2], .dead, .dead])
              · exact (PureSim.any (C27 r1.1.1 r1.1.2 r1.2.1 r1.2.2 r24.1 r24.2 r26.1 r26.2 false h29) (flatL (by kernel_rfl)) (by kernel_rfl) [.dead, .cells 30 [.int .i64 r1.1.1, .int .i64 r1.1.2, .int .i64 r1.2.1, .int .i64 r1.2.2], .cells 27 [.int .i64 r3.1.1, .int .i64 r3.1.2], .cells 27 [.int .i64 r3.2.1.1, .int .i64 r3.2.1.2], .dead, .dead])
            refine TS.draw' (id := 11) (b := true) (ops := c4.s2.s2.s2.s2.s2.s2.s2.s2.s2.s1.rops) (fin := ({ act := (st 99 [(3, .pointer (some ⟨1, 0, none⟩)), (4, .pointer (some ⟨2, 0, none⟩)), (5, .pointer (some ⟨3, 0, none⟩)), (14, .int .i64 o21), (86, .int .i64 o21), (87, .bool true), (88, .bool true), (89, .agg ⟨[.int .i64 r1.1.1, .int .i64 r1.1.2, .int .i64 r1.2.1, .int .i64 r1.2.2]⟩), (90, .agg ⟨[.int .i64 r3.1.1, .int .i64 r3.1.2]⟩), (91, .agg ⟨[.int .i64 r24.1, .int .i64 r24.2]⟩), (92, .agg ⟨[.int .i64 r3.2.1.1, .int .i64 r3.2.1.2]⟩), (93, .agg ⟨[.int .i64 r26.1, .int .i64 r26.2]⟩)]), heap := [.dead, .cells 30 [.int .i64 r1.1.1, .int .i64 r1.1.2, .int .i64 r1.2.1, .int .i64 r1.2.2], .cells 27 [.int .i64 r3.1.1, .int .i64 r3.1.2], .cells 27 [.int .i64 r3.2.1.1, .int .i64 r3.2.1.2], .dead, .dead], own := [], upds := [] } : QSt)) (fin2 := ({ act := (st 99 [(3, .pointer (some ⟨1, 0, none⟩)), (4, .pointer (some ⟨2, 0, none⟩)), (5, .pointer (some ⟨3, 0, none⟩)), (14, .int .i64 o21), (86, .int .i64 o21), (87, .bool true), (88, .bool true), (89, .agg ⟨[.int .i64 r1.1.1, .int .i64 r1.1.2, .int .i64 r1.2.1, .int .i64 r1.2.2]⟩), (90, .agg ⟨[.int .i64 r3.1.1, .int .i64 r3.1.2]⟩), (91, .agg ⟨[.int .i64 r24.1, .int .i64 r24.2]⟩), (92, .agg ⟨[.int .i64 r3.2.1.1, .int .i64 r3.2.1.2]⟩), (93, .agg ⟨[.int .i64 r26.1, .int .i64 r26.2]⟩)]), heap := [.dead, .cells 30 [.int .i64 r1.1.1, .int .i64 r1.1.2, .int .i64 r1.2.1, .int .i64 r1.2.2], .cells 27 [.int .i64 r3.1.1, .int .i64 r3.1.2], .cells 27 [.int .i64 r3.2.1.1, .int .i64 r3.2.1.2], .dead, .dead], own := [], upds := [] } : QSt)) (a1 := (st 99 [(2, .bool false), (3, .pointer (some ⟨1, 0, none⟩)), (4, .pointer (some ⟨2, 0, none⟩)), (5, .pointer (some ⟨3, 0, none⟩)), (14, .int .i64 o21), (86, .int .i64 o21), (87, .bool true), (88, .bool true), (89, .agg ⟨[.int .i64 r1.1.1, .int .i64 r1.1.2, .int .i64 r1.2.1, .int .i64 r1.2.2]⟩), (90, .agg ⟨[.int .i64 r3.1.1, .int .i64 r3.1.2]⟩), (91, .agg ⟨[.int .i64 r24.1, .int .i64 r24.2]⟩), (92, .agg ⟨[.int .i64 r3.2.1.1, .int .i64 r3.2.1.2]⟩), (93, .agg ⟨[.int .i64 r26.1, .int .i64 r26.2]⟩), (94, .bool false), (95, .bool false), (96, .bool false), (97, undef), (98, .bool false)])) (h1 := [.dead, .cells 30 [.int .i64 r1.1.1, .int .i64 r1.1.2, .int .i64 r1.2.1, .int .i64 r1.2.2], .cells 27 [.int .i64 r3.1.1, .int .i64 r3.1.2], .cells 27 [.int .i64 r3.2.1.1, .int .i64 r3.2.1.2], .dead, .dead]) (a2 := (st 99 [(2, .bool false)])) (h2 := [.dead, .dead, .dead, .dead, .dead, .dead]) [⟨19, [.agg ⟨[.int .i64 r3.1.1, .int .i64 r3.1.2]⟩], [.dead, .cells 30 [.int .i64 r1.1.1, .int .i64 r1.1.2, .int .i64 r1.2.1, .int .i64 r1.2.2], .cells 27 [.int .i64 r3.1.1, .int .i64 r3.1.2], .cells 27 [.int .i64 r3.2.1.1, .int .i64 r3.2.1.2], .dead, .dead], .agg ⟨[.int .i64 r24.1, .int .i64 r24.2]⟩, []⟩, ⟨19, [.agg ⟨[.int .i64 r3.2.1.1, .int .i64 r3.2.1.2]⟩], [.dead, .cells 30 [.int .i64 r1.1.1, .int .i64 r1.1.2, .int .i64 r1.2.1, .int .i64 r1.2.2], .cells 27 [.int .i64 r3.1.1, .int .i64 r3.1.2], .cells 27 [.int .i64 r3.2.1.1, .int .i64 r3.2.1.2], .dead, .dead], .agg ⟨[.int .i64 r26.1, .int .i64 r26.2]⟩, []⟩, ⟨27, [.agg ⟨[.int .i64 r1.1.1, .int .i64 r1.1.2, .int .i64 r1.2.1, .int .i64 r1.2.2]⟩, .agg ⟨[.int .i64 r24.1, .int .i64 r24.2]⟩, .agg ⟨[.int .i64 r26.1, .int .i64 r26.2]⟩], [.dead, .cells 30 [.int .i64 r1.1.1, .int .i64 r1.1.2, .int .i64 r1.2.1, .int .i64 r1.2.2], .cells 27 [.int .i64 r3.1.1, .int .i64 r3.1.2], .cells 27 [.int .i64 r3.2.1.1, .int .i64 r3.2.1.2], .dead, .dead], .bool false, []⟩] hT mixed (by kernel_rfl) rfl 8 (by kernel_rfl) [] ?_ rfl (.inl ⟨rfl, rfl⟩) ?_ [2] [] (by kernel_rfl) ?_
            · refine QI.run (s1 := ({ act := (st 99 [(3, .pointer (some ⟨1, 0, none⟩)), (4, .pointer (some ⟨2, 0, none⟩)), (5, .pointer (some ⟨3, 0, none⟩)), (14, .int .i64 o21), (86, .int .i64 o21)]), heap := [.dead, .cells 30 [.int .i64 r1.1.1, .int .i64 r1.1.2, .int .i64 r1.2.1, .int .i64 r1.2.2], .cells 27 [.int .i64 r3.1.1, .int .i64 r3.1.2], .cells 27 [.int .i64 r3.2.1.1, .int .i64 r3.2.1.2], .dead, .dead], own := [], upds := [] } : QSt)) 1 (by kernel_rfl) (by kernel_rfl) ?_
              refine QI.op (q := { val := .bool true }) (s1 := ({ act := (st 99 [(3, .pointer (some ⟨1, 0, none⟩)), (4, .pointer (some ⟨2, 0, none⟩)), (5, .pointer (some ⟨3, 0, none⟩)), (14, .int .i64 o21), (86, .int .i64 o21), (87, .bool true)]), heap := [.dead, .cells 30 [.int .i64 r1.1.1, .int .i64 r1.1.2, .int .i64 r1.2.1, .int .i64 r1.2.2], .cells 27 [.int .i64 r3.1.1, .int .i64 r3.1.2], .cells 27 [.int .i64 r3.2.1.1, .int .i64 r3.2.1.2], .dead, .dead], own := [], upds := [] } : QSt)) (by decide) (q_conv (e := decide (o21 ≤ 100000000)) (b := true) (by kernel_rfl) hc23) (by kernel_rfl) ?_
              refine QI.run (s1 := ({ act := (st 99 [(3, .pointer (some ⟨1, 0, none⟩)), (4, .pointer (some ⟨2, 0, none⟩)), (5, .pointer (some ⟨3, 0, none⟩)), (14, .int .i64 o21), (86, .int .i64 o21), (87, .bool true), (88, .bool true), (89, .agg ⟨[.int .i64 r1.1.1, .int .i64 r1.1.2, .int .i64 r1.2.1, .int .i64 r1.2.2]⟩), (90, .agg ⟨[.int .i64 r3.1.1, .int .i64 r3.1.2]⟩)]), heap := [.dead, .cells 30 [.int .i64 r1.1.1, .int .i64 r1.1.2, .int .i64 r1.2.1, .int .i64 r1.2.2], .cells 27 [.int .i64 r3.1.1, .int .i64 r3.1.2], .cells 27 [.int .i64 r3.2.1.1, .int .i64 r3.2.1.2], .dead, .dead], own := [], upds := [] } : QSt)) 3 (by kernel_rfl) (by kernel_rfl) ?_
              refine QI.op (q := { val := .agg ⟨[.int .i64 r24.1, .int .i64 r24.2]⟩, new := [] }) (s1 := ({ act := (st 99 [(3, .pointer (some ⟨1, 0, none⟩)), (4, .pointer (some ⟨2, 0, none⟩)), (5, .pointer (some ⟨3, 0, none⟩)), (14, .int .i64 o21), (86, .int .i64 o21), (87, .bool true), (88, .bool true), (89, .agg ⟨[.int .i64 r1.1.1, .int .i64 r1.1.2, .int .i64 r1.2.1, .int .i64 r1.2.2]⟩), (90, .agg ⟨[.int .i64 r3.1.1, .int .i64 r3.1.2]⟩), (91, .agg ⟨[.int .i64 r24.1, .int .i64 r24.2]⟩)]), heap := [.dead, .cells 30 [.int .i64 r1.1.1, .int .i64 r1.1.2, .int .i64 r1.2.1, .int .i64 r1.2.2], .cells 27 [.int .i64 r3.1.1, .int .i64 r3.1.2], .cells 27 [.int .i64 r3.2.1.1, .int .i64 r3.2.1.2], .dead, .dead], own := [], upds := [] } : QSt)) (by decide) (qOf_call (g := 19) (args := [.agg ⟨[.int .i64 r3.1.1, .int .i64 r3.1.2]⟩]) (by kernel_rfl) lookC_hit) (by kernel_rfl) ?_
              refine QI.run (s1 := ({ act := (st 99 [(3, .pointer (some ⟨1, 0, none⟩)), (4, .pointer (some ⟨2, 0, none⟩)), (5, .pointer (some ⟨3, 0, none⟩)), (14, .int .i64 o21), (86, .int .i64 o21), (87, .bool true), (88, .bool true), (89, .agg ⟨[.int .i64 r1.1.1, .int .i64 r1.1.2, .int .i64 r1.2.1, .int .i64 r1.2.2]⟩), (90, .agg ⟨[.int .i64 r3.1.1, .int .i64 r3.1.2]⟩), (91, .agg ⟨[.int .i64 r24.1, .int .i64 r24.2]⟩), (92, .agg ⟨[.int .i64 r3.2.1.1, .int .i64 r3.2.1.2]⟩)]), heap := [.dead, .cells 30 [.int .i64 r1.1.1, .int .i64 r1.1.2, .int .i64 r1.2.1, .int .i64 r1.2.2], .cells 27 [.int .i64 r3.1.1, .int .i64 r3.1.2], .cells 27 [.int .i64 r3.2.1.1, .int .i64 r3.2.1.2], .dead, .dead], own := [], upds := [] } : QSt)) 1 (by kernel_rfl) (by kernel_rfl) ?_
              refine QI.op (q := { val := .agg ⟨[.int .i64 r26.1, .int .i64 r26.2]⟩, new := [] }) (s1 := ({ act := (st 99 [(3, .pointer (some ⟨1, 0, none⟩)), (4, .pointer (some ⟨2, 0, none⟩)), (5, .pointer (some ⟨3, 0, none⟩)), (14, .int .i64 o21), (86, .int .i64 o21), (87, .bool true), (88, .bool true), (89, .agg ⟨[.int .i64 r1.1.1, .int .i64 r1.1.2, .int .i64 r1.2.1, .int .i64 r1.2.2]⟩), (90, .agg ⟨[.int .i64 r3.1.1, .int .i64 r3.1.2]⟩), (91, .agg ⟨[.int .i64 r24.1, .int .i64 r24.2]⟩), (92, .agg ⟨[.int .i64 r3.2.1.1, .int .i64 r3.2.1.2]⟩), (93, .agg ⟨[.int .i64 r26.1, .int .i64 r26.2]⟩)]), heap := [.dead, .cells 30 [.int .i64 r1.1.1, .int .i64 r1.1.2, .int .i64 r1.2.1, .int .i64 r1.2.2], .cells 27 [.int .i64 r3.1.1, .int .i64 r3.1.2], .cells 27 [.int .i64 r3.2.1.1, .int .i64 r3.2.1.2], .dead, .dead], own := [], upds := [] } : QSt)) (by decide) (qOf_call (g := 19) (args := [.agg ⟨[.int .i64 r3.2.1.1, .int .i64 r3.2.1.2]⟩]) (by kernel_rfl) (lookC_skip (by intro _ ha _; have hq := h25; have hi := h27; clear hF; first | (exfalso; simp at ha; done) | ((try simp at ha); have hr := Option.some.inj (hq.symm.trans (Eq.trans (by first | rfl | (congr 1 <;> first | rfl | omega | simp_all)) hi)); subst hr; rfl)) lookC_hit)) (by kernel_rfl) ?_
              exact QI.done (by kernel_rfl)
            · refine SI.op (q := { val := .bool false, new := [] }) (a2 := (st 99 [(3, .pointer (some ⟨1, 0, none⟩)), (4, .pointer (some ⟨2, 0, none⟩)), (5, .pointer (some ⟨3, 0, none⟩)), (14, .int .i64 o21), (86, .int .i64 o21), (87, .bool true), (88, .bool true), (89, .agg ⟨[.int .i64 r1.1.1, .int .i64 r1.1.2, .int .i64 r1.2.1, .int .i64 r1.2.2]⟩), (90, .agg ⟨[.int .i64 r3.1.1, .int .i64 r3.1.2]⟩), (91, .agg ⟨[.int .i64 r24.1, .int .i64 r24.2]⟩), (92, .agg ⟨[.int .i64 r3.2.1.1, .int .i64 r3.2.1.2]⟩), (93, .agg ⟨[.int .i64 r26.1, .int .i64 r26.2]⟩), (94, .bool false)])) (h2 := [.dead, .cells 30 [.int .i64 r1.1.1, .int .i64 r1.1.2, .int .i64 r1.2.1, .int .i64 r1.2.2], .cells 27 [.int .i64 r3.1.1, .int .i64 r3.1.2], .cells 27 [.int .i64 r3.2.1.1, .int .i64 r3.2.1.2], .dead, .dead]) (by kernel_rfl) (qOf_call (g := 27) (args := [.agg ⟨[.int .i64 r1.1.1, .int .i64 r1.1.2, .int .i64 r1.2.1, .int .i64 r1.2.2]⟩, .agg ⟨[.int .i64 r24.1, .int .i64 r24.2]⟩, .agg ⟨[.int .i64 r26.1, .int .i64 r26.2]⟩]) (by kernel_rfl) (lookC_skip (fun hg => absurd (show (19 : Nat) = 27 from hg) (by decide)) (lookC_skip (fun hg => absurd (show (19 : Nat) = 27 from hg) (by decide)) lookC_hit))) (by kernel_rfl) (by kernel_rfl) ?_
              refine SI.run (a2 := (st 99 [(2, .bool false), (3, .pointer (some ⟨1, 0, none⟩)), (4, .pointer (some ⟨2, 0, none⟩)), (5, .pointer (some ⟨3, 0, none⟩)), (14, .int .i64 o21), (86, .int .i64 o21), (87, .bool true), (88, .bool true), (89, .agg ⟨[.int .i64 r1.1.1, .int .i64 r1.1.2, .int .i64 r1.2.1, .int .i64 r1.2.2]⟩), (90, .agg ⟨[.int .i64 r3.1.1, .int .i64 r3.1.2]⟩), (91, .agg ⟨[.int .i64 r24.1, .int .i64 r24.2]⟩), (92, .agg ⟨[.int .i64 r3.2.1.1, .int .i64 r3.2.1.2]⟩), (93, .agg ⟨[.int .i64 r26.1, .int .i64 r26.2]⟩), (94, .bool false), (95, .bool false), (96, .bool false), (97, undef), (98, .bool false)])) (h2 := [.dead, .cells 30 [.int .i64 r1.1.1, .int .i64 r1.1.2, .int .i64 r1.2.1, .int .i64 r1.2.2], .cells 27 [.int .i64 r3.1.1, .int .i64 r3.1.2], .cells 27 [.int .i64 r3.2.1.1, .int .i64 r3.2.1.2], .dead, .dead]) 5 (by kernel_rfl) ?_
              exact SI.done (by kernel_rfl)
            exact hK
        · replace hm33 := of_neg hm33 hc23
          have hm33 := Option.some.inj hm33
          subst hm33
          refine TS.draw' (id := 11) (b := true) (ops := c4.s2.s2.s2.s2.s2.s2.s2.s2.s2.s1.rops) (fin := ({ act := (st 99 [(3, .pointer (some ⟨1, 0, none⟩)), (4, .pointer (some ⟨2, 0, none⟩)), (5, .pointer (some ⟨3, 0, none⟩)), (14, .int .i64 o21), (86, .int .i64 o21), (87, .bool false), (88, .bool false), (89, undef), (90, undef), (91, undef), (92, undef), (93, undef)]), heap := [.dead, .cells 30 [.int .i64 r1.1.1, .int .i64 r1.1.2, .int .i64 r1.2.1, .int .i64 r1.2.2], .cells 27 [.int .i64 r3.1.1, .int .i64 r3.1.2], .cells 27 [.int .i64 r3.2.1.1, .int .i64 r3.2.1.2], .dead, .dead], own := [], upds := [] } : QSt)) (fin2 := ({ act := (st 99 [(3, .pointer (some ⟨1, 0, none⟩)), (4, .pointer (some ⟨2, 0, none⟩)), (5, .pointer (some ⟨3, 0, none⟩)), (14, .int .i64 o21), (86, .int .i64 o21), (87, .bool false), (88, .bool false), (89, undef), (90, undef), (91, undef), (92, undef), (93, undef)]), heap := [.dead, .cells 30 [.int .i64 r1.1.1, .int .i64 r1.1.2, .int .i64 r1.2.1, .int .i64 r1.2.2], .cells 27 [.int .i64 r3.1.1, .int .i64 r3.1.2], .cells 27 [.int .i64 r3.2.1.1, .int .i64 r3.2.1.2], .dead, .dead], own := [], upds := [] } : QSt)) (a1 := (st 99 [(2, .bool false), (3, .pointer (some ⟨1, 0, none⟩)), (4, .pointer (some ⟨2, 0, none⟩)), (5, .pointer (some ⟨3, 0, none⟩)), (14, .int .i64 o21), (86, .int .i64 o21), (87, .bool false), (88, .bool false), (89, undef), (90, undef), (91, undef), (92, undef), (93, undef), (94, undef), (95, .bool false), (96, .bool false), (97, undef), (98, .bool false)])) (h1 := [.dead, .cells 30 [.int .i64 r1.1.1, .int .i64 r1.1.2, .int .i64 r1.2.1, .int .i64 r1.2.2], .cells 27 [.int .i64 r3.1.1, .int .i64 r3.1.2], .cells 27 [.int .i64 r3.2.1.1, .int .i64 r3.2.1.2], .dead, .dead]) (a2 := (st 99 [(2, .bool false)])) (h2 := [.dead, .dead, .dead, .dead, .dead, .dead]) [] (fun e he => by cases he) mixed (by kernel_rfl) rfl 8 (by kernel_rfl) [] ?_ rfl (.inl ⟨rfl, rfl⟩) ?_ [2] [] (by kernel_rfl) ?_
          · refine QI.run (s1 := ({ act := (st 99 [(3, .pointer (some ⟨1, 0, none⟩)), (4, .pointer (some ⟨2, 0, none⟩)), (5, .pointer (some ⟨3, 0, none⟩)), (14, .int .i64 o21), (86, .int .i64 o21)]), heap := [.dead, .cells 30 [.int .i64 r1.1.1, .int .i64 r1.1.2, .int .i64 r1.2.1, .int .i64 r1.2.2], .cells 27 [.int .i64 r3.1.1, .int .i64 r3.1.2], .cells 27 [.int .i64 r3.2.1.1, .int .i64 r3.2.1.2], .dead, .dead], own := [], upds := [] } : QSt)) 1 (by kernel_rfl) (by kernel_rfl) ?_
            refine QI.op (q := { val := .bool false }) (s1 := ({ act := (st 99 [(3, .pointer (some ⟨1, 0, none⟩)), (4, .pointer (some ⟨2, 0, none⟩)), (5, .pointer (some ⟨3, 0, none⟩)), (14, .int .i64 o21), (86, .int .i64 o21), (87, .bool false)]), heap := [.dead, .cells 30 [.int .i64 r1.1.1, .int .i64 r1.1.2, .int .i64 r1.2.1, .int .i64 r1.2.2], .cells 27 [.int .i64 r3.1.1, .int .i64 r3.1.2], .cells 27 [.int .i64 r3.2.1.1, .int .i64 r3.2.1.2], .dead, .dead], own := [], upds := [] } : QSt)) (by decide) (q_conv (e := decide (o21 ≤ 100000000)) (b := false) (by kernel_rfl) hc23) (by kernel_rfl) ?_
            refine QI.run (s1 := ({ act := (st 99 [(3, .pointer (some ⟨1, 0, none⟩)), (4, .pointer (some ⟨2, 0, none⟩)), (5, .pointer (some ⟨3, 0, none⟩)), (14, .int .i64 o21), (86, .int .i64 o21), (87, .bool false), (88, .bool false), (89, undef), (90, undef), (91, undef), (92, undef), (93, undef)]), heap := [.dead, .cells 30 [.int .i64 r1.1.1, .int .i64 r1.1.2, .int .i64 r1.2.1, .int .i64 r1.2.2], .cells 27 [.int .i64 r3.1.1, .int .i64 r3.1.2], .cells 27 [.int .i64 r3.2.1.1, .int .i64 r3.2.1.2], .dead, .dead], own := [], upds := [] } : QSt)) 6 (by kernel_rfl) (by kernel_rfl) ?_
            exact QI.done (by kernel_rfl)
          · refine SI.run (a2 := (st 99 [(2, .bool false), (3, .pointer (some ⟨1, 0, none⟩)), (4, .pointer (some ⟨2, 0, none⟩)), (5, .pointer (some ⟨3, 0, none⟩)), (14, .int .i64 o21), (86, .int .i64 o21), (87, .bool false), (88, .bool false), (89, undef), (90, undef), (91, undef), (92, undef), (93, undef), (94, undef), (95, .bool false), (96, .bool false), (97, undef), (98, .bool false)])) (h2 := [.dead, .cells 30 [.int .i64 r1.1.1, .int .i64 r1.1.2, .int .i64 r1.2.1, .int .i64 r1.2.2], .cells 27 [.int .i64 r3.1.1, .int .i64 r3.1.2], .cells 27 [.int .i64 r3.2.1.1, .int .i64 r3.2.1.2], .dead, .dead]) 6 (by kernel_rfl) ?_
            exact SI.done (by kernel_rfl)
          exact hK
  rcases Bool.eq_false_or_eq_true (r3.2.2 != r5.2.2) with hc11 | hc11
  · replace hm34 := of_pos hm34 hc11
    have hm34 := Option.some.inj hm34
    subst hm34
    refine TS.region' (id := 6) (b := false) (ops := c4.s2.s2.s2.s2.s2.s2.s1.s1.rops) (by kernel_rfl) rfl ?_
    refine TI.run 2 [3, 4, 5, 9, 10, 11, 12, 13, 39, 40] [1, 2, 3] (a2 := (st 99 [(3, .pointer (some ⟨1, 0, none⟩)), (4, .pointer (some ⟨2, 0, none⟩)), (5, .pointer (some ⟨3, 0, none⟩)), (9, .int .i64 r5.2.2), (10, .int .i64 r7.1), (11, .int .i64 r7.2), (12, .int .i64 r9.1), (13, .int .i64 r9.2), (39, .int .i64 r3.2.2), (40, .int .i64 r5.2.2)])) (h2 := [.dead, .cells 30 [.int .i64 r1.1.1, .int .i64 r1.1.2, .int .i64 r1.2.1, .int .i64 r1.2.2], .cells 27 [.int .i64 r3.1.1, .int .i64 r3.1.2], .cells 27 [.int .i64 r3.2.1.1, .int .i64 r3.2.1.2], .dead, .dead]) (by kernel_rfl) ?_
    refine TI.op (q := { val := .bool true }) (q_conv (e := r3.2.2 != r5.2.2) (b := true) (by kernel_rfl) hc11) [3, 4, 5, 9, 10, 11, 12, 13, 41] [1, 2, 3] (a2 := (st 99 [(3, .pointer (some ⟨1, 0, none⟩)), (4, .pointer (some ⟨2, 0, none⟩)), (5, .pointer (some ⟨3, 0, none⟩)), (9, .int .i64 r5.2.2), (10, .int .i64 r7.1), (11, .int .i64 r7.2), (12, .int .i64 r9.1), (13, .int .i64 r9.2), (41, .bool true)])) (h2 := [.dead, .cells 30 [.int .i64 r1.1.1, .int .i64 r1.1.2, .int .i64 r1.2.1, .int .i64 r1.2.2], .cells 27 [.int .i64 r3.1.1, .int .i64 r3.1.2], .cells 27 [.int .i64 r3.2.1.1, .int .i64 r3.2.1.2], .dead, .dead]) (by kernel_rfl) ?_
    refine TI.run 10 [3, 4, 5, 9, 51] [1, 2, 3] (a2 := (st 99 [(3, .pointer (some ⟨1, 0, none⟩)), (4, .pointer (some ⟨2, 0, none⟩)), (5, .pointer (some ⟨3, 0, none⟩)), (9, .int .i64 r5.2.2), (51, .bool true)])) (h2 := [.dead, .cells 30 [.int .i64 r1.1.1, .int .i64 r1.1.2, .int .i64 r1.2.1, .int .i64 r1.2.2], .cells 27 [.int .i64 r3.1.1, .int .i64 r3.1.2], .cells 27 [.int .i64 r3.2.1.1, .int .i64 r3.2.1.2], .dead, .dead]) (by kernel_rfl) ?_
    refine TI.done (by kernel_rfl) ?_
    exact hK
  · replace hm34 := of_neg hm34 hc11
    rcases Bool.eq_false_or_eq_true (r7.1 != r9.1) with hc12 | hc12
    · replace hm34 := of_pos hm34 hc12
      have hm34 := Option.some.inj hm34
      subst hm34
      refine TS.region' (id := 6) (b := false) (ops := c4.s2.s2.s2.s2.s2.s2.s1.s1.rops) (by kernel_rfl) rfl ?_
      refine TI.run 2 [3, 4, 5, 9, 10, 11, 12, 13, 39, 40] [1, 2, 3] (a2 := (st 99 [(3, .pointer (some ⟨1, 0, none⟩)), (4, .pointer (some ⟨2, 0, none⟩)), (5, .pointer (some ⟨3, 0, none⟩)), (9, .int .i64 r5.2.2), (10, .int .i64 r7.1), (11, .int .i64 r7.2), (12, .int .i64 r9.1), (13, .int .i64 r9.2), (39, .int .i64 r3.2.2), (40, .int .i64 r5.2.2)])) (h2 := [.dead, .cells 30 [.int .i64 r1.1.1, .int .i64 r1.1.2, .int .i64 r1.2.1, .int .i64 r1.2.2], .cells 27 [.int .i64 r3.1.1, .int .i64 r3.1.2], .cells 27 [.int .i64 r3.2.1.1, .int .i64 r3.2.1.2], .dead, .dead]) (by kernel_rfl) ?_
      refine TI.op (q := { val := .bool false }) (q_conv (e := r3.2.2 != r5.2.2) (b := false) (by kernel_rfl) hc11) [3, 4, 5, 9, 10, 11, 12, 13, 41] [1, 2, 3] (a2 := (st 99 [(3, .pointer (some ⟨1, 0, none⟩)), (4, .pointer (some ⟨2, 0, none⟩)), (5, .pointer (some ⟨3, 0, none⟩)), (9, .int .i64 r5.2.2), (10, .int .i64 r7.1), (11, .int .i64 r7.2), (12, .int .i64 r9.1), (13, .int .i64 r9.2), (41, .bool false)])) (h2 := [.dead, .cells 30 [.int .i64 r1.1.1, .int .i64 r1.1.2, .int .i64 r1.2.1, .int .i64 r1.2.2], .cells 27 [.int .i64 r3.1.1, .int .i64 r3.1.2], .cells 27 [.int .i64 r3.2.1.1, .int .i64 r3.2.1.2], .dead, .dead]) (by kernel_rfl) ?_
      refine TI.run 3 [3, 4, 5, 9, 11, 13, 42, 43, 44] [1, 2, 3] (a2 := (st 99 [(3, .pointer (some ⟨1, 0, none⟩)), (4, .pointer (some ⟨2, 0, none⟩)), (5, .pointer (some ⟨3, 0, none⟩)), (9, .int .i64 r5.2.2), (11, .int .i64 r7.2), (13, .int .i64 r9.2), (42, .bool false), (43, .int .i64 r7.1), (44, .int .i64 r9.1)])) (h2 := [.dead, .cells 30 [.int .i64 r1.1.1, .int .i64 r1.1.2, .int .i64 r1.2.1, .int .i64 r1.2.2], .cells 27 [.int .i64 r3.1.1, .int .i64 r3.1.2], .cells 27 [.int .i64 r3.2.1.1, .int .i64 r3.2.1.2], .dead, .dead]) (by kernel_rfl) ?_
      refine TI.op (q := { val := .bool true }) (q_conv (e := r7.1 != r9.1) (b := true) (by kernel_rfl) hc12) [3, 4, 5, 9, 11, 13, 42, 45] [1, 2, 3] (a2 := (st 99 [(3, .pointer (some ⟨1, 0, none⟩)), (4, .pointer (some ⟨2, 0, none⟩)), (5, .pointer (some ⟨3, 0, none⟩)), (9, .int .i64 r5.2.2), (11, .int .i64 r7.2), (13, .int .i64 r9.2), (42, .bool false), (45, .bool true)])) (h2 := [.dead, .cells 30 [.int .i64 r1.1.1, .int .i64 r1.1.2, .int .i64 r1.2.1, .int .i64 r1.2.2], .cells 27 [.int .i64 r3.1.1, .int .i64 r3.1.2], .cells 27 [.int .i64 r3.2.1.1, .int .i64 r3.2.1.2], .dead, .dead]) (by kernel_rfl) ?_
      refine TI.run 6 [3, 4, 5, 9, 51] [1, 2, 3] (a2 := (st 99 [(3, .pointer (some ⟨1, 0, none⟩)), (4, .pointer (some ⟨2, 0, none⟩)), (5, .pointer (some ⟨3, 0, none⟩)), (9, .int .i64 r5.2.2), (51, .bool true)])) (h2 := [.dead, .cells 30 [.int .i64 r1.1.1, .int .i64 r1.1.2, .int .i64 r1.2.1, .int .i64 r1.2.2], .cells 27 [.int .i64 r3.1.1, .int .i64 r3.1.2], .cells 27 [.int .i64 r3.2.1.1, .int .i64 r3.2.1.2], .dead, .dead]) (by kernel_rfl) ?_
      refine TI.done (by kernel_rfl) ?_
      exact hK
    · replace hm34 := of_neg hm34 hc12
      have hm34 := Option.some.inj hm34
      subst hm34
      refine TS.region' (id := 6) (b := false) (ops := c4.s2.s2.s2.s2.s2.s2.s1.s1.rops) (by kernel_rfl) rfl ?_
      refine TI.run 2 [3, 4, 5, 9, 10, 11, 12, 13, 39, 40] [1, 2, 3] (a2 := (st 99 [(3, .pointer (some ⟨1, 0, none⟩)), (4, .pointer (some ⟨2, 0, none⟩)), (5, .pointer (some ⟨3, 0, none⟩)), (9, .int .i64 r5.2.2), (10, .int .i64 r7.1), (11, .int .i64 r7.2), (12, .int .i64 r9.1), (13, .int .i64 r9.2), (39, .int .i64 r3.2.2), (40, .int .i64 r5.2.2)])) (h2 := [.dead, .cells 30 [.int .i64 r1.1.1, .int .i64 r1.1.2, .int .i64 r1.2.1, .int .i64 r1.2.2], .cells 27 [.int .i64 r3.1.1, .int .i64 r3.1.2], .cells 27 [.int .i64 r3.2.1.1, .int .i64 r3.2.1.2], .dead, .dead]) (by kernel_rfl) ?_
      refine TI.op (q := { val := .bool false }) (q_conv (e := r3.2.2 != r5.2.2) (b := false) (by kernel_rfl) hc11) [3, 4, 5, 9, 10, 11, 12, 13, 41] [1, 2, 3] (a2 := (st 99 [(3, .pointer (some ⟨1, 0, none⟩)), (4, .pointer (some ⟨2, 0, none⟩)), (5, .pointer (some ⟨3, 0, none⟩)), (9, .int .i64 r5.2.2), (10, .int .i64 r7.1), (11, .int .i64 r7.2), (12, .int .i64 r9.1), (13, .int .i64 r9.2), (41, .bool false)])) (h2 := [.dead, .cells 30 [.int .i64 r1.1.1, .int .i64 r1.1.2, .int .i64 r1.2.1, .int .i64 r1.2.2], .cells 27 [.int .i64 r3.1.1, .int .i64 r3.1.2], .cells 27 [.int .i64 r3.2.1.1, .int .i64 r3.2.1.2], .dead, .dead]) (by kernel_rfl) ?_
      refine TI.run 3 [3, 4, 5, 9, 11, 13, 42, 43, 44] [1, 2, 3] (a2 := (st 99 [(3, .pointer (some ⟨1, 0, none⟩)), (4, .pointer (some ⟨2, 0, none⟩)), (5, .pointer (some ⟨3, 0, none⟩)), (9, .int .i64 r5.2.2), (11, .int .i64 r7.2), (13, .int .i64 r9.2), (42, .bool false), (43, .int .i64 r7.1), (44, .int .i64 r9.1)])) (h2 := [.dead, .cells 30 [.int .i64 r1.1.1, .int .i64 r1.1.2, .int .i64 r1.2.1, .int .i64 r1.2.2], .cells 27 [.int .i64 r3.1.1, .int .i64 r3.1.2], .cells 27 [.int .i64 r3.2.1.1, .int .i64 r3.2.1.2], .dead, .dead]) (by kernel_rfl) ?_
      refine TI.op (q := { val := .bool false }) (q_conv (e := r7.1 != r9.1) (b := false) (by kernel_rfl) hc12) [3, 4, 5, 9, 11, 13, 42, 45] [1, 2, 3] (a2 := (st 99 [(3, .pointer (some ⟨1, 0, none⟩)), (4, .pointer (some ⟨2, 0, none⟩)), (5, .pointer (some ⟨3, 0, none⟩)), (9, .int .i64 r5.2.2), (11, .int .i64 r7.2), (13, .int .i64 r9.2), (42, .bool false), (45, .bool false)])) (h2 := [.dead, .cells 30 [.int .i64 r1.1.1, .int .i64 r1.1.2, .int .i64 r1.2.1, .int .i64 r1.2.2], .cells 27 [.int .i64 r3.1.1, .int .i64 r3.1.2], .cells 27 [.int .i64 r3.2.1.1, .int .i64 r3.2.1.2], .dead, .dead]) (by kernel_rfl) ?_
      refine TI.run 6 [3, 4, 5, 9, 51] [1, 2, 3] (a2 := (st 99 [(3, .pointer (some ⟨1, 0, none⟩)), (4, .pointer (some ⟨2, 0, none⟩)), (5, .pointer (some ⟨3, 0, none⟩)), (9, .int .i64 r5.2.2), (51, .bool (r7.2 != r9.2))])) (h2 := [.dead, .cells 30 [.int .i64 r1.1.1, .int .i64 r1.1.2, .int .i64 r1.2.1, .int .i64 r1.2.2], .cells 27 [.int .i64 r3.1.1, .int .i64 r3.1.2], .cells 27 [.int .i64 r3.2.1.1, .int .i64 r3.2.1.2], .dead, .dead]) (by kernel_rfl) ?_
      refine TI.done (by kernel_rfl) ?_
      exact hK
theorem C4 (p0 : Int) (p1 : Int) (p2 : Int) (p3 : Int) (r : Bool) (hF : F4 p0 p1 p2 p3 = some r) : PureSim Try.prog 4 [.agg ⟨[.int .i64 p0, .int .i64 p1, .int .i64 p2, .int .i64 p3]⟩] [] (V4 0 r) (N4 0 r) :=
  PureSim.of_Fin Try.func4 (c := c4) (by kernel_rfl) (by kernel_rfl) 0 rfl [0] [] (by kernel_rfl) (B4 p0 p1 p2 p3 r hF)

end Go.Proofs.Ytenjelagfbceeaa
