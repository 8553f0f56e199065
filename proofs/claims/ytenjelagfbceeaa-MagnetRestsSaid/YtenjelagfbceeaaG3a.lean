/- What functions of the program compute, and that they do. -/
import Derived.Test.YtenjelagfbceeaaTs7
import Derived.Test.YtenjelagfbceeaaProg
import Derived.KernelRfl
import Derived.Test.YtenjelagfbceeaaGiven
set_option linter.unusedVariables false
set_option linter.unusedSimpArgs false
set_option maxRecDepth 100000
set_option maxHeartbeats 4000000
namespace Go.Proofs.Ytenjelagfbceeaa
open Go Go.Cl
theorem mixed : Try.prog.follows .mixedOrders = true := by kernel_rfl
def e27 (x : (Int × Int)) : List Value := [.int .i64 x.1, .int .i64 x.2]
-- agonic/agoniclaw06.given
noncomputable def c13 : Code := Try.f13.code
def F13 (p0 : Int) (p1 : Int) (p2 : Int) (p3 : Int) : Option ((Int × Int) × (Int × Int)) :=
  some ((p0, p1), (p2, p3))
def V13 (b : Nat) (r : ((Int × Int) × (Int × Int))) : Value := .agg ⟨[.int .i64 r.1.1, .int .i64 r.1.2, .int .i64 r.2.1, .int .i64 r.2.2]⟩
def N13 (b : Nat) (r : ((Int × Int) × (Int × Int))) : List Blk := []
theorem B13 (p0 : Int) (p1 : Int) (p2 : Int) (p3 : Int) (r : ((Int × Int) × (Int × Int))) (hF : F13 p0 p1 p2 p3 = some r) : TS Try.prog 0 0 c13 (st 8 [(0, .agg ⟨[.int .i64 p0, .int .i64 p1, .int .i64 p2, .int .i64 p3]⟩)]) [] (NX Try.prog 0 0 [] (FinP Try.prog Try.f13 0 (V13 0 r) (N13 0 r))) := by
  unfold F13 at hF
  refine TS.seq' (x := c13.s1) (y := c13.s2) (by kernel_rfl) ?_
  refine TS.region' (id := 0) (b := false) (ops := c13.s1.rops) (by kernel_rfl) rfl ?_
  refine TI.run 2 [1, 2] [0, 1] (a2 := (st 8 [(1, .pointer (some ⟨0, 0, none⟩)), (2, .pointer (some ⟨1, 0, none⟩))])) (h2 := [.cells 25 [.int .i64 p0, .int .i64 p1, .int .i64 p2, .int .i64 p3], .cells 30 [.int .i64 0, .int .i64 0, .int .i64 0, .int .i64 0]]) (by kernel_rfl) ?_
  refine TI.done (by kernel_rfl) ?_
  refine NX.sq ?_
  refine TS.seq' (x := c13.s2.s1) (y := c13.s2.s2) (by kernel_rfl) ?_
  refine TS.region' (id := 1) (b := false) (ops := c13.s2.s1.rops) (by kernel_rfl) rfl ?_
  refine TI.run 6 [2] [1] (a2 := (st 8 [(2, .pointer (some ⟨1, 0, none⟩))])) (h2 := [.dead, .cells 30 [.int .i64 p0, .int .i64 p1, .int .i64 p2, .int .i64 p3]]) (by kernel_rfl) ?_
  refine TI.done (by kernel_rfl) ?_
  refine NX.sq ?_
  refine TS.ret' (by kernel_rfl) ?_
  have hF := Option.some.inj hF
  subst hF
  exact ⟨.inr rfl, rfl, .agg ⟨[.int .i64 p0, .int .i64 p1, .int .i64 p2, .int .i64 p3]⟩, by kernel_rfl, WkV.flat0 (by kernel_rfl) (Nat.le_of_ble_eq_true rfl)⟩
theorem C13 (p0 : Int) (p1 : Int) (p2 : Int) (p3 : Int) (r : ((Int × Int) × (Int × Int))) (hF : F13 p0 p1 p2 p3 = some r) : PureSim Try.prog 13 [.agg ⟨[.int .i64 p0, .int .i64 p1, .int .i64 p2, .int .i64 p3]⟩] [] (V13 0 r) (N13 0 r) :=
  PureSim.of_Fin Try.func13 (c := c13) (by kernel_rfl) (by kernel_rfl) 0 rfl [0] [] (by kernel_rfl) (B13 p0 p1 p2 p3 r hF)

-- agonic/magnet.between
noncomputable def c68 : Code := Try.f68.code
def F68 (p0 : Int) (p1 : Int) (p2 : Int) : Option Bool :=
  (
    if decide (p0 ≤ p1) then
      some (decide (p1 ≤ p2))
    else
      some (false)
  : Option Bool) >>= fun m2 =>
  some m2
def V68 (b : Nat) (r : Bool) : Value := .bool r
def N68 (b : Nat) (r : Bool) : List Blk := []
theorem B68 (p0 : Int) (p1 : Int) (p2 : Int) (r : Bool) (hF : F68 p0 p1 p2 = some r) : TS Try.prog 0 0 c68 (st 15 [(0, .int .i64 p0), (1, .int .i64 p1), (2, .int .i64 p2)]) [] (NX Try.prog 0 0 [] (FinP Try.prog Try.f68 0 (V68 0 r) (N68 0 r))) := by
  unfold F68 at hF
  refine TS.seq' (x := c68.s1) (y := c68.s2) (by kernel_rfl) ?_
  refine TS.region' (id := 0) (b := false) (ops := c68.s1.rops) (by kernel_rfl) rfl ?_
  refine TI.run 1 [0, 1, 2] [] (a2 := (st 15 [(0, .int .i64 p0), (1, .int .i64 p1), (2, .int .i64 p2)])) (h2 := []) (by kernel_rfl) ?_
  refine TI.done (by kernel_rfl) ?_
  refine NX.sq ?_
  refine TS.seq' (x := c68.s2.s1) (y := c68.s2.s2) (by kernel_rfl) ?_
  have hX := of_do hF
  clear hF
  obtain ⟨m2, hm3, hF⟩ := hX
  have hK : NX Try.prog 0 0 [.sq c68.s2.s2] (FinP Try.prog Try.f68 0 (V68 0 r) (N68 0 r)) .normal (st 15 [(6, .bool m2)]) [] := by
    refine NX.sq ?_
    refine TS.ret' (by kernel_rfl) ?_
    have hF := Option.some.inj hF
    subst hF
    exact ⟨.inr rfl, rfl, .bool m2, by kernel_rfl, WkV.flat0 (by kernel_rfl) (Nat.le_of_ble_eq_true rfl)⟩
  rcases Bool.eq_false_or_eq_true (decide (p0 ≤ p1)) with hc1 | hc1
  · replace hm3 := of_pos hm3 hc1
    have hm3 := Option.some.inj hm3
    subst hm3
    refine TS.region' (id := 1) (b := false) (ops := c68.s2.s1.rops) (by kernel_rfl) rfl ?_
    refine TI.run 2 [1, 2, 7, 8] [] (a2 := (st 15 [(1, .int .i64 p1), (2, .int .i64 p2), (7, .int .i64 p0), (8, .int .i64 p1)])) (h2 := []) (by kernel_rfl) ?_
    refine TI.op (q := { val := .bool true }) (q_conv (e := decide (p0 ≤ p1)) (b := true) (by kernel_rfl) hc1) [1, 2, 9] [] (a2 := (st 15 [(1, .int .i64 p1), (2, .int .i64 p2), (9, .bool true)])) (h2 := []) (by kernel_rfl) ?_
    refine TI.run 6 [6] [] (a2 := (st 15 [(6, .bool (decide (p1 ≤ p2)))])) (h2 := []) (by kernel_rfl) ?_
    refine TI.done (by kernel_rfl) ?_
    exact hK
  · replace hm3 := of_neg hm3 hc1
    have hm3 := Option.some.inj hm3
    subst hm3
    refine TS.region' (id := 1) (b := false) (ops := c68.s2.s1.rops) (by kernel_rfl) rfl ?_
    refine TI.run 2 [1, 2, 7, 8] [] (a2 := (st 15 [(1, .int .i64 p1), (2, .int .i64 p2), (7, .int .i64 p0), (8, .int .i64 p1)])) (h2 := []) (by kernel_rfl) ?_
    refine TI.op (q := { val := .bool false }) (q_conv (e := decide (p0 ≤ p1)) (b := false) (by kernel_rfl) hc1) [1, 2, 9] [] (a2 := (st 15 [(1, .int .i64 p1), (2, .int .i64 p2), (9, .bool false)])) (h2 := []) (by kernel_rfl) ?_
    refine TI.run 6 [6] [] (a2 := (st 15 [(6, .bool false)])) (h2 := []) (by kernel_rfl) ?_
    refine TI.done (by kernel_rfl) ?_
    exact hK
theorem C68 (p0 : Int) (p1 : Int) (p2 : Int) (r : Bool) (hF : F68 p0 p1 p2 = some r) : PureSim Try.prog 68 [.int .i64 p0, .int .i64 p1, .int .i64 p2] [] (V68 0 r) (N68 0 r) :=
  PureSim.of_Fin Try.func68 (c := c68) (by kernel_rfl) (by kernel_rfl) 0 rfl [0, 1, 2] [] (by kernel_rfl) (B68 p0 p1 p2 r hF)

-- (agonic/magnet.Vector).within
noncomputable def c58 : Code := Try.f58.code
def F58 (p0 : Int) (p1 : Int) (p2 : Int) : Option Bool :=
  F68 (w64 (0 - p2)) p0 p2 >>= fun r1 =>
  (
    if r1 then
      F68 (w64 (0 - p2)) p1 p2 >>= fun r3 =>
      some (r3)
    else
      some (false)
  : Option Bool) >>= fun m5 =>
  some m5
def V58 (b : Nat) (r : Bool) : Value := .bool r
def N58 (b : Nat) (r : Bool) : List Blk := []
theorem B58 (p0 : Int) (p1 : Int) (p2 : Int) (r : Bool) (hF : F58 p0 p1 p2 = some r) : TS Try.prog 0 0 c58 (st 19 [(0, .agg ⟨[.int .i64 p0, .int .i64 p1]⟩), (1, .int .i64 p2)]) [] (NX Try.prog 0 0 [] (FinP Try.prog Try.f58 0 (V58 0 r) (N58 0 r))) := by
  unfold F58 at hF
  refine TS.seq' (x := c58.s1) (y := c58.s2) (by kernel_rfl) ?_
  refine TS.region' (id := 0) (b := false) (ops := c58.s1.rops) (by kernel_rfl) rfl ?_
  refine TI.run 2 [1, 2] [0] (a2 := (st 19 [(1, .int .i64 p2), (2, .pointer (some ⟨0, 0, none⟩))])) (h2 := [.cells 23 [.int .i64 p0, .int .i64 p1]]) (by kernel_rfl) ?_
  refine TI.done (by kernel_rfl) ?_
  refine NX.sq ?_
  refine TS.seq' (x := c58.s2.s1) (y := c58.s2.s2) (by kernel_rfl) ?_
  have hX := of_do hF
  clear hF
  obtain ⟨r1, h2, hF⟩ := hX
  have hX := of_do hF
  clear hF
  obtain ⟨m5, hm6, hF⟩ := hX
  have hK : NX Try.prog 0 0 [.sq c58.s2.s2] (FinP Try.prog Try.f58 0 (V58 0 r) (N58 0 r)) .normal (st 19 [(4, .bool m5)]) [.dead] := by
    refine NX.sq ?_
    refine TS.ret' (by kernel_rfl) ?_
    have hF := Option.some.inj hF
    subst hF
    exact ⟨.inr rfl, rfl, .bool m5, by kernel_rfl, WkV.flat0 (by kernel_rfl) (Nat.le_of_ble_eq_true rfl)⟩
  cases r1 with
  | true =>
    replace hm6 := of_pos hm6 rfl
    have hX := of_do hm6
    clear hm6
    obtain ⟨r3, h4, hm6⟩ := hX
    have hm6 := Option.some.inj hm6
    subst hm6
    refine TS.region' (id := 1) (b := false) (ops := c58.s2.s1.rops) (by kernel_rfl) rfl ?_
    refine TI.run 5 [1, 2, 6, 8, 9] [0] (a2 := (st 19 [(1, .int .i64 p2), (2, .pointer (some ⟨0, 0, none⟩)), (6, .int .i64 (w64 (0 - p2))), (8, .int .i64 p0), (9, .int .i64 p2)])) (h2 := [.cells 23 [.int .i64 p0, .int .i64 p1]]) (by kernel_rfl) ?_
    refine TI.callM (g := 68) (args := [.int .i64 (w64 (0 - p2)), .int .i64 p0, .int .i64 p2]) (v := .bool true) (new := []) (by kernel_rfl) (PureSim.any (C68 (w64 (0 - p2)) p0 p2 true h2) (flatL (by kernel_rfl)) (by kernel_rfl) [.cells 23 [.int .i64 p0, .int .i64 p1]]) [1, 2, 10] [0] (a2 := (st 19 [(1, .int .i64 p2), (2, .pointer (some ⟨0, 0, none⟩)), (10, .bool true)])) (h2 := [.cells 23 [.int .i64 p0, .int .i64 p1]]) (by kernel_rfl) ?_
    refine TI.run 6 [11, 13, 15, 16] [] (a2 := (st 19 [(11, .bool true), (13, .int .i64 (w64 (0 - p2))), (15, .int .i64 p1), (16, .int .i64 p2)])) (h2 := [.dead]) (by kernel_rfl) ?_
    refine TI.callM (g := 68) (args := [.int .i64 (w64 (0 - p2)), .int .i64 p1, .int .i64 p2]) (v := .bool r3) (new := []) (by kernel_rfl) (PureSim.any (C68 (w64 (0 - p2)) p1 p2 r3 h4) (flatL (by kernel_rfl)) (by kernel_rfl) [.dead]) [11, 17] [] (a2 := (st 19 [(11, .bool true), (17, .bool r3)])) (h2 := [.dead]) (by kernel_rfl) ?_
    refine TI.run 2 [4] [] (a2 := (st 19 [(4, .bool r3)])) (h2 := [.dead]) (by kernel_rfl) ?_
    refine TI.done (by kernel_rfl) ?_
    exact hK
  | false =>
    replace hm6 := of_neg hm6 rfl
    have hm6 := Option.some.inj hm6
    subst hm6
    refine TS.region' (id := 1) (b := false) (ops := c58.s2.s1.rops) (by kernel_rfl) rfl ?_
    refine TI.run 5 [1, 2, 6, 8, 9] [0] (a2 := (st 19 [(1, .int .i64 p2), (2, .pointer (some ⟨0, 0, none⟩)), (6, .int .i64 (w64 (0 - p2))), (8, .int .i64 p0), (9, .int .i64 p2)])) (h2 := [.cells 23 [.int .i64 p0, .int .i64 p1]]) (by kernel_rfl) ?_
    refine TI.callM (g := 68) (args := [.int .i64 (w64 (0 - p2)), .int .i64 p0, .int .i64 p2]) (v := .bool false) (new := []) (by kernel_rfl) (PureSim.any (C68 (w64 (0 - p2)) p0 p2 false h2) (flatL (by kernel_rfl)) (by kernel_rfl) [.cells 23 [.int .i64 p0, .int .i64 p1]]) [1, 2, 10] [0] (a2 := (st 19 [(1, .int .i64 p2), (2, .pointer (some ⟨0, 0, none⟩)), (10, .bool false)])) (h2 := [.cells 23 [.int .i64 p0, .int .i64 p1]]) (by kernel_rfl) ?_
    refine TI.run 9 [4] [] (a2 := (st 19 [(4, .bool false)])) (h2 := [.dead]) (by kernel_rfl) ?_
    refine TI.done (by kernel_rfl) ?_
    exact hK
theorem C58 (p0 : Int) (p1 : Int) (p2 : Int) (r : Bool) (hF : F58 p0 p1 p2 = some r) : PureSim Try.prog 58 [.agg ⟨[.int .i64 p0, .int .i64 p1]⟩, .int .i64 p2] [] (V58 0 r) (N58 0 r) :=
  PureSim.of_Fin Try.func58 (c := c58) (by kernel_rfl) (by kernel_rfl) 0 rfl [0, 1] [] (by kernel_rfl) (B58 p0 p1 p2 r hF)

-- (agonic/magnet.Vector).cross
noncomputable def c59 : Code := Try.f59.code
def F59 (p0 : Int) (p1 : Int) (p2 : Int) (p3 : Int) : Option Int :=
  some (w64 ((w64 (p0 * p3)) - (w64 (p1 * p2))))
def V59 (b : Nat) (r : Int) : Value := .int .i64 r
def N59 (b : Nat) (r : Int) : List Blk := []
theorem B59 (p0 : Int) (p1 : Int) (p2 : Int) (p3 : Int) (r : Int) (hF : F59 p0 p1 p2 p3 = some r) : TS Try.prog 0 0 c59 (st 16 [(0, .agg ⟨[.int .i64 p0, .int .i64 p1]⟩), (1, .agg ⟨[.int .i64 p2, .int .i64 p3]⟩)]) [] (NX Try.prog 0 0 [] (FinP Try.prog Try.f59 0 (V59 0 r) (N59 0 r))) := by
  unfold F59 at hF
  refine TS.seq' (x := c59.s1) (y := c59.s2) (by kernel_rfl) ?_
  refine TS.region' (id := 0) (b := false) (ops := c59.s1.rops) (by kernel_rfl) rfl ?_
  refine TI.run 3 [2, 3] [0, 1] (a2 := (st 16 [(2, .pointer (some ⟨0, 0, none⟩)), (3, .pointer (some ⟨1, 0, none⟩))])) (h2 := [.cells 23 [.int .i64 p0, .int .i64 p1], .cells 23 [.int .i64 p2, .int .i64 p3]]) (by kernel_rfl) ?_
  refine TI.done (by kernel_rfl) ?_
  refine NX.sq ?_
  refine TS.seq' (x := c59.s2.s1) (y := c59.s2.s2) (by kernel_rfl) ?_
  refine TS.region' (id := 1) (b := false) (ops := c59.s2.s1.rops) (by kernel_rfl) rfl ?_
  refine TI.run 12 [4] [] (a2 := (st 16 [(4, .int .i64 (w64 ((w64 (p0 * p3)) - (w64 (p1 * p2)))))])) (h2 := [.dead, .dead]) (by kernel_rfl) ?_
  refine TI.done (by kernel_rfl) ?_
  refine NX.sq ?_
  refine TS.ret' (by kernel_rfl) ?_
  have hF := Option.some.inj hF
  subst hF
  exact ⟨.inr rfl, rfl, .int .i64 (w64 ((w64 (p0 * p3)) - (w64 (p1 * p2)))), by kernel_rfl, WkV.flat0 (by kernel_rfl) (Nat.le_of_ble_eq_true rfl)⟩
theorem C59 (p0 : Int) (p1 : Int) (p2 : Int) (p3 : Int) (r : Int) (hF : F59 p0 p1 p2 p3 = some r) : PureSim Try.prog 59 [.agg ⟨[.int .i64 p0, .int .i64 p1]⟩, .agg ⟨[.int .i64 p2, .int .i64 p3]⟩] [] (V59 0 r) (N59 0 r) :=
  PureSim.of_Fin Try.func59 (c := c59) (by kernel_rfl) (by kernel_rfl) 0 rfl [0, 1] [] (by kernel_rfl) (B59 p0 p1 p2 p3 r hF)

-- agonic/magnet.Check
noncomputable def c20 : Code := Try.f20.code
def F20 (p0 : Int) (p1 : Int) (p2 : Int) (p3 : Int) : Option Int :=
  F58 p0 p1 1000 >>= fun r1 =>
  (
    if r1 then
      F58 p2 p3 1000 >>= fun r3 =>
      if r3 then
        some (false)
      else
        some (true)
    else
      some (true)
  : Option Bool) >>= fun m5 =>
  if m5 then
    some 1
  else
    F59 p0 p1 p2 p3 >>= fun r6 =>
    if r6 == 0 then
      some 15
    else
      some 0
def V20 (b : Nat) (r : Int) : Value := .int .i64 r
def N20 (b : Nat) (r : Int) : List Blk := []
theorem B20 (p0 : Int) (p1 : Int) (p2 : Int) (p3 : Int) (r : Int) (hF : F20 p0 p1 p2 p3 = some r) : TS Try.prog 0 0 c20 (st 21 [(0, .agg ⟨[.int .i64 p0, .int .i64 p1, .int .i64 p2, .int .i64 p3]⟩)]) [] (NX Try.prog 0 0 [] (FinP Try.prog Try.f20 0 (V20 0 r) (N20 0 r))) := by
  unfold F20 at hF
  refine TS.seq' (x := c20.s1) (y := c20.s2) (by kernel_rfl) ?_
  refine TS.region' (id := 0) (b := false) (ops := c20.s1.rops) (by kernel_rfl) rfl ?_
  refine TI.run 2 [1] [0] (a2 := (st 21 [(1, .pointer (some ⟨0, 0, none⟩))])) (h2 := [.cells 25 [.int .i64 p0, .int .i64 p1, .int .i64 p2, .int .i64 p3]]) (by kernel_rfl) ?_
  refine TI.done (by kernel_rfl) ?_
  refine NX.sq ?_
  refine TS.seq' (x := c20.s2.s1) (y := c20.s2.s2) (by kernel_rfl) ?_
  refine TS.block' (id := 0) (x := c20.s2.s1.bd) (by kernel_rfl) ?_
  refine TS.seq' (x := c20.s2.s1.bd.s1) (y := c20.s2.s1.bd.s2) (by kernel_rfl) ?_
  have hX := of_do hF
  clear hF
  obtain ⟨r1, h2, hF⟩ := hX
  have hX := of_do hF
  clear hF
  obtain ⟨m5, hm9, hF⟩ := hX
  have hK : NX Try.prog 0 0 [.sq c20.s2.s1.bd.s2, .bk 0, .sq c20.s2.s2] (FinP Try.prog Try.f20 0 (V20 0 r) (N20 0 r)) .normal (st 21 [(1, .pointer (some ⟨0, 0, none⟩)), (3, .bool m5)]) [.cells 25 [.int .i64 p0, .int .i64 p1, .int .i64 p2, .int .i64 p3]] := by
    refine NX.sq ?_
    cases m5 with
    | true =>
      replace hF := of_pos hF rfl
      refine TS.condT' (o := (.tmp 3)) (x := c20.s2.s1.bd.s2.th) (y := c20.s2.s1.bd.s2.el) (by kernel_rfl) (by kernel_rfl) ?_
      refine TS.seq' (x := c20.s2.s1.bd.s2.th.s1) (y := c20.s2.s1.bd.s2.th.s2) (by kernel_rfl) ?_
      refine TS.region' (id := 2) (b := false) (ops := c20.s2.s1.bd.s2.th.s1.rops) (by kernel_rfl) rfl ?_
      refine TI.run 1 [2] [] (a2 := (st 21 [(2, .int .i64 1)])) (h2 := [.dead]) (by kernel_rfl) ?_
      refine TI.done (by kernel_rfl) ?_
      refine NX.sq ?_
      refine TS.ret' (by kernel_rfl) ?_
      refine NX.bkR ?_
      refine NX.sqR ?_
      have hF := Option.some.inj hF
      subst hF
      exact ⟨.inr rfl, rfl, .int .i64 1, by kernel_rfl, WkV.flat0 (by kernel_rfl) (Nat.le_of_ble_eq_true rfl)⟩
    | false =>
      replace hF := of_neg hF rfl
      refine TS.condF' (o := (.tmp 3)) (x := c20.s2.s1.bd.s2.th) (y := c20.s2.s1.bd.s2.el) (by kernel_rfl) (by kernel_rfl) ?_
      refine TS.seq' (x := c20.s2.s1.bd.s2.el.s1) (y := c20.s2.s1.bd.s2.el.s2) (by kernel_rfl) ?_
      have hX := of_do hF
      clear hF
      obtain ⟨r6, h7, hF⟩ := hX
      refine TS.region' (id := 3) (b := false) (ops := c20.s2.s1.bd.s2.el.s1.rops) (by kernel_rfl) rfl ?_
      refine TI.run 4 [16, 18] [] (a2 := (st 21 [(16, .agg ⟨[.int .i64 p0, .int .i64 p1]⟩), (18, .agg ⟨[.int .i64 p2, .int .i64 p3]⟩)])) (h2 := [.dead]) (by kernel_rfl) ?_
      refine TI.callM (g := 59) (args := [.agg ⟨[.int .i64 p0, .int .i64 p1]⟩, .agg ⟨[.int .i64 p2, .int .i64 p3]⟩]) (v := .int .i64 r6) (new := []) (by kernel_rfl) (PureSim.any (C59 p0 p1 p2 p3 r6 h7) (flatL (by kernel_rfl)) (by kernel_rfl) [.dead]) [19] [] (a2 := (st 21 [(19, .int .i64 r6)])) (h2 := [.dead]) (by kernel_rfl) ?_
      refine TI.run 2 [14] [] (a2 := (st 21 [(14, .bool (r6 == 0))])) (h2 := [.dead]) (by kernel_rfl) ?_
      refine TI.done (by kernel_rfl) ?_
      refine NX.sq ?_
      refine TS.cond' (o := (.tmp 14)) (x := c20.s2.s1.bd.s2.el.s2.th) (y := c20.s2.s1.bd.s2.el.s2.el) (b := r6 == 0) (by kernel_rfl) (by kernel_rfl) (fun hc8 => ?_) (fun hc8 => ?_)
      · replace hF := of_pos hF hc8
        refine TS.seq' (x := c20.s2.s1.bd.s2.el.s2.th.s1) (y := c20.s2.s1.bd.s2.el.s2.th.s2) (by kernel_rfl) ?_
        refine TS.region' (id := 4) (b := false) (ops := c20.s2.s1.bd.s2.el.s2.th.s1.rops) (by kernel_rfl) rfl ?_
        refine TI.run 1 [2] [] (a2 := (st 21 [(2, .int .i64 15)])) (h2 := [.dead]) (by kernel_rfl) ?_
        refine TI.done (by kernel_rfl) ?_
        refine NX.sq ?_
        refine TS.ret' (by kernel_rfl) ?_
        refine NX.bkR ?_
        refine NX.sqR ?_
        have hF := Option.some.inj hF
        subst hF
        exact ⟨.inr rfl, rfl, .int .i64 15, by kernel_rfl, WkV.flat0 (by kernel_rfl) (Nat.le_of_ble_eq_true rfl)⟩
      · replace hF := of_neg hF hc8
        refine TS.skip' (by kernel_rfl) ?_
        refine NX.bk ?_
        refine NX.sq ?_
        refine TS.seq' (x := c20.s2.s2.s1) (y := c20.s2.s2.s2) (by kernel_rfl) ?_
        refine TS.region' (id := 5) (b := false) (ops := c20.s2.s2.s1.rops) (by kernel_rfl) rfl ?_
        refine TI.run 1 [2] [] (a2 := (st 21 [(2, .int .i64 0)])) (h2 := [.dead]) (by kernel_rfl) ?_
        refine TI.done (by kernel_rfl) ?_
        refine NX.sq ?_
        refine TS.ret' (by kernel_rfl) ?_
        have hF := Option.some.inj hF
        subst hF
        exact ⟨.inr rfl, rfl, .int .i64 0, by kernel_rfl, WkV.flat0 (by kernel_rfl) (Nat.le_of_ble_eq_true rfl)⟩
  cases r1 with
  | true =>
    replace hm9 := of_pos hm9 rfl
    have hX := of_do hm9
    clear hm9
    obtain ⟨r3, h4, hm9⟩ := hX
    cases r3 with
    | true =>
      replace hm9 := of_pos hm9 rfl
      have hm9 := Option.some.inj hm9
      subst hm9
      refine TS.region' (id := 1) (b := false) (ops := c20.s2.s1.bd.s1.rops) (by kernel_rfl) rfl ?_
      refine TI.run 2 [1, 5] [0] (a2 := (st 21 [(1, .pointer (some ⟨0, 0, none⟩)), (5, .agg ⟨[.int .i64 p0, .int .i64 p1]⟩)])) (h2 := [.cells 25 [.int .i64 p0, .int .i64 p1, .int .i64 p2, .int .i64 p3]]) (by kernel_rfl) ?_
      refine TI.callM (g := 58) (args := [.agg ⟨[.int .i64 p0, .int .i64 p1]⟩, .int .i64 1000]) (v := .bool true) (new := []) (by kernel_rfl) (PureSim.any (C58 p0 p1 1000 true h2) (flatL (by kernel_rfl)) (by kernel_rfl) [.cells 25 [.int .i64 p0, .int .i64 p1, .int .i64 p2, .int .i64 p3]]) [1, 6] [0] (a2 := (st 21 [(1, .pointer (some ⟨0, 0, none⟩)), (6, .bool true)])) (h2 := [.cells 25 [.int .i64 p0, .int .i64 p1, .int .i64 p2, .int .i64 p3]]) (by kernel_rfl) ?_
      refine TI.run 4 [1, 8, 10] [0] (a2 := (st 21 [(1, .pointer (some ⟨0, 0, none⟩)), (8, .bool false), (10, .agg ⟨[.int .i64 p2, .int .i64 p3]⟩)])) (h2 := [.cells 25 [.int .i64 p0, .int .i64 p1, .int .i64 p2, .int .i64 p3]]) (by kernel_rfl) ?_
      refine TI.callM (g := 58) (args := [.agg ⟨[.int .i64 p2, .int .i64 p3]⟩, .int .i64 1000]) (v := .bool true) (new := []) (by kernel_rfl) (PureSim.any (C58 p2 p3 1000 true h4) (flatL (by kernel_rfl)) (by kernel_rfl) [.cells 25 [.int .i64 p0, .int .i64 p1, .int .i64 p2, .int .i64 p3]]) [1, 8, 11] [0] (a2 := (st 21 [(1, .pointer (some ⟨0, 0, none⟩)), (8, .bool false), (11, .bool true)])) (h2 := [.cells 25 [.int .i64 p0, .int .i64 p1, .int .i64 p2, .int .i64 p3]]) (by kernel_rfl) ?_
      refine TI.run 3 [1, 3] [0] (a2 := (st 21 [(1, .pointer (some ⟨0, 0, none⟩)), (3, .bool false)])) (h2 := [.cells 25 [.int .i64 p0, .int .i64 p1, .int .i64 p2, .int .i64 p3]]) (by kernel_rfl) ?_
      refine TI.done (by kernel_rfl) ?_
      exact hK
    | false =>
      replace hm9 := of_neg hm9 rfl
      have hm9 := Option.some.inj hm9
      subst hm9
      refine TS.region' (id := 1) (b := false) (ops := c20.s2.s1.bd.s1.rops) (by kernel_rfl) rfl ?_
      refine TI.run 2 [1, 5] [0] (a2 := (st 21 [(1, .pointer (some ⟨0, 0, none⟩)), (5, .agg ⟨[.int .i64 p0, .int .i64 p1]⟩)])) (h2 := [.cells 25 [.int .i64 p0, .int .i64 p1, .int .i64 p2, .int .i64 p3]]) (by kernel_rfl) ?_
      refine TI.callM (g := 58) (args := [.agg ⟨[.int .i64 p0, .int .i64 p1]⟩, .int .i64 1000]) (v := .bool true) (new := []) (by kernel_rfl) (PureSim.any (C58 p0 p1 1000 true h2) (flatL (by kernel_rfl)) (by kernel_rfl) [.cells 25 [.int .i64 p0, .int .i64 p1, .int .i64 p2, .int .i64 p3]]) [1, 6] [0] (a2 := (st 21 [(1, .pointer (some ⟨0, 0, none⟩)), (6, .bool true)])) (h2 := [.cells 25 [.int .i64 p0, .int .i64 p1, .int .i64 p2, .int .i64 p3]]) (by kernel_rfl) ?_
      refine TI.run 4 [1, 8, 10] [0] (a2 := (st 21 [(1, .pointer (some ⟨0, 0, none⟩)), (8, .bool false), (10, .agg ⟨[.int .i64 p2, .int .i64 p3]⟩)])) (h2 := [.cells 25 [.int .i64 p0, .int .i64 p1, .int .i64 p2, .int .i64 p3]]) (by kernel_rfl) ?_
      refine TI.callM (g := 58) (args := [.agg ⟨[.int .i64 p2, .int .i64 p3]⟩, .int .i64 1000]) (v := .bool false) (new := []) (by kernel_rfl) (PureSim.any (C58 p2 p3 1000 false h4) (flatL (by kernel_rfl)) (by kernel_rfl) [.cells 25 [.int .i64 p0, .int .i64 p1, .int .i64 p2, .int .i64 p3]]) [1, 8, 11] [0] (a2 := (st 21 [(1, .pointer (some ⟨0, 0, none⟩)), (8, .bool false), (11, .bool false)])) (h2 := [.cells 25 [.int .i64 p0, .int .i64 p1, .int .i64 p2, .int .i64 p3]]) (by kernel_rfl) ?_
      refine TI.run 3 [1, 3] [0] (a2 := (st 21 [(1, .pointer (some ⟨0, 0, none⟩)), (3, .bool true)])) (h2 := [.cells 25 [.int .i64 p0, .int .i64 p1, .int .i64 p2, .int .i64 p3]]) (by kernel_rfl) ?_
      refine TI.done (by kernel_rfl) ?_
      exact hK
  | false =>
    replace hm9 := of_neg hm9 rfl
    have hm9 := Option.some.inj hm9
    subst hm9
    refine TS.region' (id := 1) (b := false) (ops := c20.s2.s1.bd.s1.rops) (by kernel_rfl) rfl ?_
    refine TI.run 2 [1, 5] [0] (a2 := (st 21 [(1, .pointer (some ⟨0, 0, none⟩)), (5, .agg ⟨[.int .i64 p0, .int .i64 p1]⟩)])) (h2 := [.cells 25 [.int .i64 p0, .int .i64 p1, .int .i64 p2, .int .i64 p3]]) (by kernel_rfl) ?_
    refine TI.callM (g := 58) (args := [.agg ⟨[.int .i64 p0, .int .i64 p1]⟩, .int .i64 1000]) (v := .bool false) (new := []) (by kernel_rfl) (PureSim.any (C58 p0 p1 1000 false h2) (flatL (by kernel_rfl)) (by kernel_rfl) [.cells 25 [.int .i64 p0, .int .i64 p1, .int .i64 p2, .int .i64 p3]]) [1, 6] [0] (a2 := (st 21 [(1, .pointer (some ⟨0, 0, none⟩)), (6, .bool false)])) (h2 := [.cells 25 [.int .i64 p0, .int .i64 p1, .int .i64 p2, .int .i64 p3]]) (by kernel_rfl) ?_
    refine TI.run 8 [1, 3] [0] (a2 := (st 21 [(1, .pointer (some ⟨0, 0, none⟩)), (3, .bool true)])) (h2 := [.cells 25 [.int .i64 p0, .int .i64 p1, .int .i64 p2, .int .i64 p3]]) (by kernel_rfl) ?_
    refine TI.done (by kernel_rfl) ?_
    exact hK
theorem C20 (p0 : Int) (p1 : Int) (p2 : Int) (p3 : Int) (r : Int) (hF : F20 p0 p1 p2 p3 = some r) : PureSim Try.prog 20 [.agg ⟨[.int .i64 p0, .int .i64 p1, .int .i64 p2, .int .i64 p3]⟩] [] (V20 0 r) (N20 0 r) :=
  PureSim.of_Fin Try.func20 (c := c20) (by kernel_rfl) (by kernel_rfl) 0 rfl [0] [] (by kernel_rfl) (B20 p0 p1 p2 p3 r hF)

-- (agonic/magnet.Vector).dot
noncomputable def c72 : Code := Try.f72.code
def F72 (p0 : Int) (p1 : Int) (p2 : Int) (p3 : Int) : Option Int :=
  some (w64 ((w64 (p0 * p2)) + (w64 (p1 * p3))))
def V72 (b : Nat) (r : Int) : Value := .int .i64 r
def N72 (b : Nat) (r : Int) : List Blk := []
theorem B72 (p0 : Int) (p1 : Int) (p2 : Int) (p3 : Int) (r : Int) (hF : F72 p0 p1 p2 p3 = some r) : TS Try.prog 0 0 c72 (st 16 [(0, .agg ⟨[.int .i64 p0, .int .i64 p1]⟩), (1, .agg ⟨[.int .i64 p2, .int .i64 p3]⟩)]) [] (NX Try.prog 0 0 [] (FinP Try.prog Try.f72 0 (V72 0 r) (N72 0 r))) := by
  unfold F72 at hF
  refine TS.seq' (x := c72.s1) (y := c72.s2) (by kernel_rfl) ?_
  refine TS.region' (id := 0) (b := false) (ops := c72.s1.rops) (by kernel_rfl) rfl ?_
  refine TI.run 3 [2, 3] [0, 1] (a2 := (st 16 [(2, .pointer (some ⟨0, 0, none⟩)), (3, .pointer (some ⟨1, 0, none⟩))])) (h2 := [.cells 23 [.int .i64 p0, .int .i64 p1], .cells 23 [.int .i64 p2, .int .i64 p3]]) (by kernel_rfl) ?_
  refine TI.done (by kernel_rfl) ?_
  refine NX.sq ?_
  refine TS.seq' (x := c72.s2.s1) (y := c72.s2.s2) (by kernel_rfl) ?_
  refine TS.region' (id := 1) (b := false) (ops := c72.s2.s1.rops) (by kernel_rfl) rfl ?_
  refine TI.run 12 [4] [] (a2 := (st 16 [(4, .int .i64 (w64 ((w64 (p0 * p2)) + (w64 (p1 * p3)))))])) (h2 := [.dead, .dead]) (by kernel_rfl) ?_
  refine TI.done (by kernel_rfl) ?_
  refine NX.sq ?_
  refine TS.ret' (by kernel_rfl) ?_
  have hF := Option.some.inj hF
  subst hF
  exact ⟨.inr rfl, rfl, .int .i64 (w64 ((w64 (p0 * p2)) + (w64 (p1 * p3)))), by kernel_rfl, WkV.flat0 (by kernel_rfl) (Nat.le_of_ble_eq_true rfl)⟩
theorem C72 (p0 : Int) (p1 : Int) (p2 : Int) (p3 : Int) (r : Int) (hF : F72 p0 p1 p2 p3 = some r) : PureSim Try.prog 72 [.agg ⟨[.int .i64 p0, .int .i64 p1]⟩, .agg ⟨[.int .i64 p2, .int .i64 p3]⟩] [] (V72 0 r) (N72 0 r) :=
  PureSim.of_Fin Try.func72 (c := c72) (by kernel_rfl) (by kernel_rfl) 0 rfl [0, 1] [] (by kernel_rfl) (B72 p0 p1 p2 p3 r hF)

-- (agonic/magnet.Vector).square
noncomputable def c63 : Code := Try.f63.code
def F63 (p0 : Int) (p1 : Int) : Option Int :=
  F72 p0 p1 p0 p1 >>= fun r1 =>
  some r1
def V63 (b : Nat) (r : Int) : Value := .int .i64 r
def N63 (b : Nat) (r : Int) : List Blk := []
theorem B63 (p0 : Int) (p1 : Int) (r : Int) (hF : F63 p0 p1 = some r) : TS Try.prog 0 0 c63 (st 6 [(0, .agg ⟨[.int .i64 p0, .int .i64 p1]⟩)]) [] (NX Try.prog 0 0 [] (FinP Try.prog Try.f63 0 (V63 0 r) (N63 0 r))) := by
  unfold F63 at hF
  refine TS.seq' (x := c63.s1) (y := c63.s2) (by kernel_rfl) ?_
  refine TS.region' (id := 0) (b := false) (ops := c63.s1.rops) (by kernel_rfl) rfl ?_
  refine TI.run 2 [1] [0] (a2 := (st 6 [(1, .pointer (some ⟨0, 0, none⟩))])) (h2 := [.cells 23 [.int .i64 p0, .int .i64 p1]]) (by kernel_rfl) ?_
  refine TI.done (by kernel_rfl) ?_
  refine NX.sq ?_
  refine TS.seq' (x := c63.s2.s1) (y := c63.s2.s2) (by kernel_rfl) ?_
  have hX := of_do hF
  clear hF
  obtain ⟨r1, h2, hF⟩ := hX
  refine TS.region' (id := 1) (b := false) (ops := c63.s2.s1.rops) (by kernel_rfl) rfl ?_
  refine TI.run 2 [3, 4] [] (a2 := (st 6 [(3, .agg ⟨[.int .i64 p0, .int .i64 p1]⟩), (4, .agg ⟨[.int .i64 p0, .int .i64 p1]⟩)])) (h2 := [.dead]) (by kernel_rfl) ?_
  refine TI.callM (g := 72) (args := [.agg ⟨[.int .i64 p0, .int .i64 p1]⟩, .agg ⟨[.int .i64 p0, .int .i64 p1]⟩]) (v := .int .i64 r1) (new := []) (by kernel_rfl) (PureSim.any (C72 p0 p1 p0 p1 r1 h2) (flatL (by kernel_rfl)) (by kernel_rfl) [.dead]) [5] [] (a2 := (st 6 [(5, .int .i64 r1)])) (h2 := [.dead]) (by kernel_rfl) ?_
  refine TI.run 1 [2] [] (a2 := (st 6 [(2, .int .i64 r1)])) (h2 := [.dead]) (by kernel_rfl) ?_
  refine TI.done (by kernel_rfl) ?_
  refine NX.sq ?_
  refine TS.ret' (by kernel_rfl) ?_
  have hF := Option.some.inj hF
  subst hF
  exact ⟨.inr rfl, rfl, .int .i64 r1, by kernel_rfl, WkV.flat0 (by kernel_rfl) (Nat.le_of_ble_eq_true rfl)⟩
theorem C63 (p0 : Int) (p1 : Int) (r : Int) (hF : F63 p0 p1 = some r) : PureSim Try.prog 63 [.agg ⟨[.int .i64 p0, .int .i64 p1]⟩] [] (V63 0 r) (N63 0 r) :=
  PureSim.of_Fin Try.func63 (c := c63) (by kernel_rfl) (by kernel_rfl) 0 rfl [0] [] (by kernel_rfl) (B63 p0 p1 r hF)

-- (agonic/magnet.Kit).reduced
noncomputable def c50 : Code := Try.f50.code
def F50 (p0 : Int) (p1 : Int) (p2 : Int) (p3 : Int) : Option Bool :=
  F72 p0 p1 p2 p3 >>= fun r1 =>
  F63 p0 p1 >>= fun r3 =>
  F63 p2 p3 >>= fun r5 =>
  (
    if decide (r3 ≤ r5) then
      some (w64 (2 * (if (w64 (0 - r1)) > r1 then (w64 (0 - r1)) else r1))) >>= fun o8 =>
      F63 p0 p1 >>= fun r10 =>
      some (decide (o8 ≤ r10))
    else
      some (false)
  : Option Bool) >>= fun m12 =>
  some m12
def V50 (b : Nat) (r : Bool) : Value := .bool r
def N50 (b : Nat) (r : Bool) : List Blk := []
theorem B50 (p0 : Int) (p1 : Int) (p2 : Int) (p3 : Int) (r : Bool) (hF : F50 p0 p1 p2 p3 = some r) : TS Try.prog 0 0 c50 (st 27 [(0, .agg ⟨[.int .i64 p0, .int .i64 p1, .int .i64 p2, .int .i64 p3]⟩)]) [] (NX Try.prog 0 0 [] (FinP Try.prog Try.f50 0 (V50 0 r) (N50 0 r))) := by
  unfold F50 at hF
  refine TS.seq' (x := c50.s1) (y := c50.s2) (by kernel_rfl) ?_
  refine TS.region' (id := 0) (b := false) (ops := c50.s1.rops) (by kernel_rfl) rfl ?_
  refine TI.run 2 [1] [0] (a2 := (st 27 [(1, .pointer (some ⟨0, 0, none⟩))])) (h2 := [.cells 25 [.int .i64 p0, .int .i64 p1, .int .i64 p2, .int .i64 p3]]) (by kernel_rfl) ?_
  refine TI.done (by kernel_rfl) ?_
  refine NX.sq ?_
  refine TS.seq' (x := c50.s2.s1) (y := c50.s2.s2) (by kernel_rfl) ?_
  have hX := of_do hF
  clear hF
  obtain ⟨r1, h2, hF⟩ := hX
  refine TS.region' (id := 1) (b := false) (ops := c50.s2.s1.rops) (by kernel_rfl) rfl ?_
  refine TI.run 4 [1, 5, 7] [0] (a2 := (st 27 [(1, .pointer (some ⟨0, 0, none⟩)), (5, .agg ⟨[.int .i64 p0, .int .i64 p1]⟩), (7, .agg ⟨[.int .i64 p2, .int .i64 p3]⟩)])) (h2 := [.cells 25 [.int .i64 p0, .int .i64 p1, .int .i64 p2, .int .i64 p3]]) (by kernel_rfl) ?_
  refine TI.callM (g := 72) (args := [.agg ⟨[.int .i64 p0, .int .i64 p1]⟩, .agg ⟨[.int .i64 p2, .int .i64 p3]⟩]) (v := .int .i64 r1) (new := []) (by kernel_rfl) (PureSim.any (C72 p0 p1 p2 p3 r1 h2) (flatL (by kernel_rfl)) (by kernel_rfl) [.cells 25 [.int .i64 p0, .int .i64 p1, .int .i64 p2, .int .i64 p3]]) [1, 8] [0] (a2 := (st 27 [(1, .pointer (some ⟨0, 0, none⟩)), (8, .int .i64 r1)])) (h2 := [.cells 25 [.int .i64 p0, .int .i64 p1, .int .i64 p2, .int .i64 p3]]) (by kernel_rfl) ?_
  refine TI.run 1 [1, 3] [0] (a2 := (st 27 [(1, .pointer (some ⟨0, 0, none⟩)), (3, .int .i64 r1)])) (h2 := [.cells 25 [.int .i64 p0, .int .i64 p1, .int .i64 p2, .int .i64 p3]]) (by kernel_rfl) ?_
  refine TI.done (by kernel_rfl) ?_
  refine NX.sq ?_
  refine TS.seq' (x := c50.s2.s2.s1) (y := c50.s2.s2.s2) (by kernel_rfl) ?_
  have hX := of_do hF
  clear hF
  obtain ⟨r3, h4, hF⟩ := hX
  have hX := of_do hF
  clear hF
  obtain ⟨r5, h6, hF⟩ := hX
  have hX := of_do hF
  clear hF
  obtain ⟨m12, hm13, hF⟩ := hX
  have hK : NX Try.prog 0 0 [.sq c50.s2.s2.s2] (FinP Try.prog Try.f50 0 (V50 0 r) (N50 0 r)) .normal (st 27 [(2, .bool m12)]) [.dead] := by
    refine NX.sq ?_
    refine TS.ret' (by kernel_rfl) ?_
    have hF := Option.some.inj hF
    subst hF
    exact ⟨.inr rfl, rfl, .bool m12, by kernel_rfl, WkV.flat0 (by kernel_rfl) (Nat.le_of_ble_eq_true rfl)⟩
  rcases Bool.eq_false_or_eq_true (decide (r3 ≤ r5)) with hc7 | hc7
  · replace hm13 := of_pos hm13 hc7
    have hX := of_do hm13
    clear hm13
    obtain ⟨o8, h9, hm13⟩ := hX
    replace h9 := Option.some.inj h9
    have hX := of_do hm13
    clear hm13
    obtain ⟨r10, h11, hm13⟩ := hX
    have hm13 := Option.some.inj hm13
    subst hm13
    have hT : ∀ e ∈ ([⟨63, [.agg ⟨[.int .i64 p0, .int .i64 p1]⟩], [.cells 25 [.int .i64 p0, .int .i64 p1, .int .i64 p2, .int .i64 p3]], .int .i64 r3, []⟩, ⟨63, [.agg ⟨[.int .i64 p2, .int .i64 p3]⟩], [.cells 25 [.int .i64 p0, .int .i64 p1, .int .i64 p2, .int .i64 p3]], .int .i64 r5, []⟩, ⟨63, [.agg ⟨[.int .i64 p0, .int .i64 p1]⟩], [.cells 25 [.int .i64 p0, .int .i64 p1, .int .i64 p2, .int .i64 p3]], .int .i64 r10, []⟩] : List Entry), PureSim Try.prog e.g e.args e.h e.v e.new := by
      intro e he
      simp only [List.mem_cons, List.not_mem_nil, or_false] at he
      rcases he with rfl | rfl | rfl
      · exact (PureSim.any (C63 p0 p1 r3 h4) (flatL (by kernel_rfl)) (by kernel_rfl) [.cells 25 [.int .i64 p0, .int .i64 p1, .int .i64 p2, .int .i64 p3]])
      · exact (PureSim.any (C63 p2 p3 r5 h6) (flatL (by kernel_rfl)) (by kernel_rfl) [.cells 25 [.int .i64 p0, .int .i64 p1, .int .i64 p2, .int .i64 p3]])
      · exact (PureSim.any (C63 p0 p1 r10 h11) (flatL (by kernel_rfl)) (by kernel_rfl) [.cells 25 [.int .i64 p0, .int .i64 p1, .int .i64 p2, .int .i64 p3]])
    refine TS.draw' (id := 2) (b := true) (ops := c50.s2.s2.s1.rops) (fin := ({ act := (st 27 [(1, .pointer (some ⟨0, 0, none⟩)), (3, .int .i64 r1), (9, .pointer (some ⟨0, 0, none⟩)), (10, .agg ⟨[.int .i64 p0, .int .i64 p1]⟩), (11, .int .i64 r3), (12, .pointer (some ⟨0, 2, none⟩)), (13, .agg ⟨[.int .i64 p2, .int .i64 p3]⟩), (14, .int .i64 r5), (15, .bool true), (16, .bool true), (17, .int .i64 r1), (18, .int .i64 r1), (19, .int .i64 (w64 (0 - r1))), (20, .int .i64 (if (w64 (0 - r1)) > r1 then (w64 (0 - r1)) else r1)), (21, .int .i64 o8), (22, .pointer (some ⟨0, 0, none⟩)), (23, .agg ⟨[.int .i64 p0, .int .i64 p1]⟩), (24, .int .i64 r10)]), heap := [.cells 25 [.int .i64 p0, .int .i64 p1, .int .i64 p2, .int .i64 p3]], own := [], upds := [] } : QSt)) (fin2 := ({ act := (st 27 [(1, .pointer (some ⟨0, 0, none⟩)), (3, .int .i64 r1), (9, .pointer (some ⟨0, 0, none⟩)), (10, .agg ⟨[.int .i64 p0, .int .i64 p1]⟩), (11, .int .i64 r3), (12, .pointer (some ⟨0, 2, none⟩)), (13, .agg ⟨[.int .i64 p2, .int .i64 p3]⟩), (14, .int .i64 r5), (15, .bool true), (16, .bool true), (17, .int .i64 r1), (18, .int .i64 r1), (19, .int .i64 (w64 (0 - r1))), (20, .int .i64 (if (w64 (0 - r1)) > r1 then (w64 (0 - r1)) else r1)), (21, .int .i64 o8), (22, .pointer (some ⟨0, 0, none⟩)), (23, .agg ⟨[.int .i64 p0, .int .i64 p1]⟩), (24, .int .i64 r10)]), heap := [.cells 25 [.int .i64 p0, .int .i64 p1, .int .i64 p2, .int .i64 p3]], own := [], upds := [] } : QSt)) (a1 := (st 27 [(1, .pointer (some ⟨0, 0, none⟩)), (2, .bool (decide (o8 ≤ r10))), (3, .int .i64 r1), (9, .pointer (some ⟨0, 0, none⟩)), (10, .agg ⟨[.int .i64 p0, .int .i64 p1]⟩), (11, .int .i64 r3), (12, .pointer (some ⟨0, 2, none⟩)), (13, .agg ⟨[.int .i64 p2, .int .i64 p3]⟩), (14, .int .i64 r5), (15, .bool true), (16, .bool true), (17, .int .i64 r1), (18, .int .i64 r1), (19, .int .i64 (w64 (0 - r1))), (20, .int .i64 (if (w64 (0 - r1)) > r1 then (w64 (0 - r1)) else r1)), (21, .int .i64 o8), (22, .pointer (some ⟨0, 0, none⟩)), (23, .agg ⟨[.int .i64 p0, .int .i64 p1]⟩), (24, .int .i64 r10), (25, .bool (decide (o8 ≤ r10))), (26, .bool (decide (o8 ≤ r10)))])) (h1 := [.cells 25 [.int .i64 p0, .int .i64 p1, .int .i64 p2, .int .i64 p3]]) (a2 := (st 27 [(2, .bool (decide (o8 ≤ r10)))])) (h2 := [.dead]) [⟨63, [.agg ⟨[.int .i64 p0, .int .i64 p1]⟩], [.cells 25 [.int .i64 p0, .int .i64 p1, .int .i64 p2, .int .i64 p3]], .int .i64 r3, []⟩, ⟨63, [.agg ⟨[.int .i64 p2, .int .i64 p3]⟩], [.cells 25 [.int .i64 p0, .int .i64 p1, .int .i64 p2, .int .i64 p3]], .int .i64 r5, []⟩, ⟨63, [.agg ⟨[.int .i64 p0, .int .i64 p1]⟩], [.cells 25 [.int .i64 p0, .int .i64 p1, .int .i64 p2, .int .i64 p3]], .int .i64 r10, []⟩] hT mixed (by kernel_rfl) rfl 16 (by kernel_rfl) [] ?_ rfl (.inl ⟨rfl, rfl⟩) ?_ [2] [] (by kernel_rfl) ?_
    · refine QI.run (s1 := ({ act := (st 27 [(1, .pointer (some ⟨0, 0, none⟩)), (3, .int .i64 r1), (9, .pointer (some ⟨0, 0, none⟩)), (10, .agg ⟨[.int .i64 p0, .int .i64 p1]⟩)]), heap := [.cells 25 [.int .i64 p0, .int .i64 p1, .int .i64 p2, .int .i64 p3]], own := [], upds := [] } : QSt)) 2 (by kernel_rfl) (by kernel_rfl) ?_
      refine QI.op (q := { val := .int .i64 r3, new := [] }) (s1 := ({ act := (st 27 [(1, .pointer (some ⟨0, 0, none⟩)), (3, .int .i64 r1), (9, .pointer (some ⟨0, 0, none⟩)), (10, .agg ⟨[.int .i64 p0, .int .i64 p1]⟩), (11, .int .i64 r3)]), heap := [.cells 25 [.int .i64 p0, .int .i64 p1, .int .i64 p2, .int .i64 p3]], own := [], upds := [] } : QSt)) (by decide) (qOf_call (g := 63) (args := [.agg ⟨[.int .i64 p0, .int .i64 p1]⟩]) (by kernel_rfl) lookC_hit) (by kernel_rfl) ?_
      refine QI.run (s1 := ({ act := (st 27 [(1, .pointer (some ⟨0, 0, none⟩)), (3, .int .i64 r1), (9, .pointer (some ⟨0, 0, none⟩)), (10, .agg ⟨[.int .i64 p0, .int .i64 p1]⟩), (11, .int .i64 r3), (12, .pointer (some ⟨0, 2, none⟩)), (13, .agg ⟨[.int .i64 p2, .int .i64 p3]⟩)]), heap := [.cells 25 [.int .i64 p0, .int .i64 p1, .int .i64 p2, .int .i64 p3]], own := [], upds := [] } : QSt)) 2 (by kernel_rfl) (by kernel_rfl) ?_
      refine QI.op (q := { val := .int .i64 r5, new := [] }) (s1 := ({ act := (st 27 [(1, .pointer (some ⟨0, 0, none⟩)), (3, .int .i64 r1), (9, .pointer (some ⟨0, 0, none⟩)), (10, .agg ⟨[.int .i64 p0, .int .i64 p1]⟩), (11, .int .i64 r3), (12, .pointer (some ⟨0, 2, none⟩)), (13, .agg ⟨[.int .i64 p2, .int .i64 p3]⟩), (14, .int .i64 r5)]), heap := [.cells 25 [.int .i64 p0, .int .i64 p1, .int .i64 p2, .int .i64 p3]], own := [], upds := [] } : QSt)) (by decide) (qOf_call (g := 63) (args := [.agg ⟨[.int .i64 p2, .int .i64 p3]⟩]) (by kernel_rfl) (lookC_skip (by intro _ ha _; have hq := h4; have hi := h6; clear hF; first | (exfalso; simp at ha; done) | ((try simp at ha); have hr := Option.some.inj (hq.symm.trans (Eq.trans (by first | rfl | (congr 1 <;> first | rfl | omega | simp_all)) hi)); subst hr; rfl)) lookC_hit)) (by kernel_rfl) ?_
      refine QI.op (q := { val := .bool true }) (s1 := ({ act := (st 27 [(1, .pointer (some ⟨0, 0, none⟩)), (3, .int .i64 r1), (9, .pointer (some ⟨0, 0, none⟩)), (10, .agg ⟨[.int .i64 p0, .int .i64 p1]⟩), (11, .int .i64 r3), (12, .pointer (some ⟨0, 2, none⟩)), (13, .agg ⟨[.int .i64 p2, .int .i64 p3]⟩), (14, .int .i64 r5), (15, .bool true)]), heap := [.cells 25 [.int .i64 p0, .int .i64 p1, .int .i64 p2, .int .i64 p3]], own := [], upds := [] } : QSt)) (by decide) (q_conv (e := decide (r3 ≤ r5)) (b := true) (by kernel_rfl) hc7) (by kernel_rfl) ?_
      refine QI.run (s1 := ({ act := (st 27 [(1, .pointer (some ⟨0, 0, none⟩)), (3, .int .i64 r1), (9, .pointer (some ⟨0, 0, none⟩)), (10, .agg ⟨[.int .i64 p0, .int .i64 p1]⟩), (11, .int .i64 r3), (12, .pointer (some ⟨0, 2, none⟩)), (13, .agg ⟨[.int .i64 p2, .int .i64 p3]⟩), (14, .int .i64 r5), (15, .bool true), (16, .bool true), (17, .int .i64 r1), (18, .int .i64 r1), (19, .int .i64 (w64 (0 - r1))), (20, .int .i64 (if (w64 (0 - r1)) > r1 then (w64 (0 - r1)) else r1))]), heap := [.cells 25 [.int .i64 p0, .int .i64 p1, .int .i64 p2, .int .i64 p3]], own := [], upds := [] } : QSt)) 5 (by kernel_rfl) (by kernel_rfl) ?_
      refine QI.op (q := { val := .int .i64 o8 }) (s1 := ({ act := (st 27 [(1, .pointer (some ⟨0, 0, none⟩)), (3, .int .i64 r1), (9, .pointer (some ⟨0, 0, none⟩)), (10, .agg ⟨[.int .i64 p0, .int .i64 p1]⟩), (11, .int .i64 r3), (12, .pointer (some ⟨0, 2, none⟩)), (13, .agg ⟨[.int .i64 p2, .int .i64 p3]⟩), (14, .int .i64 r5), (15, .bool true), (16, .bool true), (17, .int .i64 r1), (18, .int .i64 r1), (19, .int .i64 (w64 (0 - r1))), (20, .int .i64 (if (w64 (0 - r1)) > r1 then (w64 (0 - r1)) else r1)), (21, .int .i64 o8)]), heap := [.cells 25 [.int .i64 p0, .int .i64 p1, .int .i64 p2, .int .i64 p3]], own := [], upds := [] } : QSt)) (by decide) (q_convI (e := w64 (2 * (if (w64 (0 - r1)) > r1 then (w64 (0 - r1)) else r1))) (y := o8) (by kernel_rfl) h9) (by kernel_rfl) ?_
      refine QI.run (s1 := ({ act := (st 27 [(1, .pointer (some ⟨0, 0, none⟩)), (3, .int .i64 r1), (9, .pointer (some ⟨0, 0, none⟩)), (10, .agg ⟨[.int .i64 p0, .int .i64 p1]⟩), (11, .int .i64 r3), (12, .pointer (some ⟨0, 2, none⟩)), (13, .agg ⟨[.int .i64 p2, .int .i64 p3]⟩), (14, .int .i64 r5), (15, .bool true), (16, .bool true), (17, .int .i64 r1), (18, .int .i64 r1), (19, .int .i64 (w64 (0 - r1))), (20, .int .i64 (if (w64 (0 - r1)) > r1 then (w64 (0 - r1)) else r1)), (21, .int .i64 o8), (22, .pointer (some ⟨0, 0, none⟩)), (23, .agg ⟨[.int .i64 p0, .int .i64 p1]⟩)]), heap := [.cells 25 [.int .i64 p0, .int .i64 p1, .int .i64 p2, .int .i64 p3]], own := [], upds := [] } : QSt)) 2 (by kernel_rfl) (by kernel_rfl) ?_
      refine QI.op (q := { val := .int .i64 r10, new := [] }) (s1 := ({ act := (st 27 [(1, .pointer (some ⟨0, 0, none⟩)), (3, .int .i64 r1), (9, .pointer (some ⟨0, 0, none⟩)), (10, .agg ⟨[.int .i64 p0, .int .i64 p1]⟩), (11, .int .i64 r3), (12, .pointer (some ⟨0, 2, none⟩)), (13, .agg ⟨[.int .i64 p2, .int .i64 p3]⟩), (14, .int .i64 r5), (15, .bool true), (16, .bool true), (17, .int .i64 r1), (18, .int .i64 r1), (19, .int .i64 (w64 (0 - r1))), (20, .int .i64 (if (w64 (0 - r1)) > r1 then (w64 (0 - r1)) else r1)), (21, .int .i64 o8), (22, .pointer (some ⟨0, 0, none⟩)), (23, .agg ⟨[.int .i64 p0, .int .i64 p1]⟩), (24, .int .i64 r10)]), heap := [.cells 25 [.int .i64 p0, .int .i64 p1, .int .i64 p2, .int .i64 p3]], own := [], upds := [] } : QSt)) (by decide) (qOf_call (g := 63) (args := [.agg ⟨[.int .i64 p0, .int .i64 p1]⟩]) (by kernel_rfl) (lookC_skip (by intro _ ha _; have hq := h4; have hi := h11; clear hF; first | (exfalso; simp at ha; done) | ((try simp at ha); have hr := Option.some.inj (hq.symm.trans (Eq.trans (by first | rfl | (congr 1 <;> first | rfl | omega | simp_all)) hi)); subst hr; rfl)) (lookC_skip (by intro _ ha _; have hq := h6; have hi := h11; clear hF; first | (exfalso; simp at ha; done) | ((try simp at ha); have hr := Option.some.inj (hq.symm.trans (Eq.trans (by first | rfl | (congr 1 <;> first | rfl | omega | simp_all)) hi)); subst hr; rfl)) lookC_hit))) (by kernel_rfl) ?_
      exact QI.done (by kernel_rfl)
    · refine SI.run (a2 := (st 27 [(1, .pointer (some ⟨0, 0, none⟩)), (2, .bool (decide (o8 ≤ r10))), (3, .int .i64 r1), (9, .pointer (some ⟨0, 0, none⟩)), (10, .agg ⟨[.int .i64 p0, .int .i64 p1]⟩), (11, .int .i64 r3), (12, .pointer (some ⟨0, 2, none⟩)), (13, .agg ⟨[.int .i64 p2, .int .i64 p3]⟩), (14, .int .i64 r5), (15, .bool true), (16, .bool true), (17, .int .i64 r1), (18, .int .i64 r1), (19, .int .i64 (w64 (0 - r1))), (20, .int .i64 (if (w64 (0 - r1)) > r1 then (w64 (0 - r1)) else r1)), (21, .int .i64 o8), (22, .pointer (some ⟨0, 0, none⟩)), (23, .agg ⟨[.int .i64 p0, .int .i64 p1]⟩), (24, .int .i64 r10), (25, .bool (decide (o8 ≤ r10))), (26, .bool (decide (o8 ≤ r10)))])) (h2 := [.cells 25 [.int .i64 p0, .int .i64 p1, .int .i64 p2, .int .i64 p3]]) 3 (by kernel_rfl) ?_
      exact SI.done (by kernel_rfl)
    exact hK
  · replace hm13 := of_neg hm13 hc7
    have hm13 := Option.some.inj hm13
    subst hm13
    have hT : ∀ e ∈ ([⟨63, [.agg ⟨[.int .i64 p0, .int .i64 p1]⟩], [.cells 25 [.int .i64 p0, .int .i64 p1, .int .i64 p2, .int .i64 p3]], .int .i64 r3, []⟩, ⟨63, [.agg ⟨[.int .i64 p2, .int .i64 p3]⟩], [.cells 25 [.int .i64 p0, .int .i64 p1, .int .i64 p2, .int .i64 p3]], .int .i64 r5, []⟩] : List Entry), PureSim Try.prog e.g e.args e.h e.v e.new := by
      intro e he
      simp only [List.mem_cons, List.not_mem_nil, or_false] at he
      rcases he with rfl | rfl
      · exact (PureSim.any (C63 p0 p1 r3 h4) (flatL (by kernel_rfl)) (by kernel_rfl) [.cells 25 [.int .i64 p0, .int .i64 p1, .int .i64 p2, .int .i64 p3]])
      · exact (PureSim.any (C63 p2 p3 r5 h6) (flatL (by kernel_rfl)) (by kernel_rfl) [.cells 25 [.int .i64 p0, .int .i64 p1, .int .i64 p2, .int .i64 p3]])
    refine TS.draw' (id := 2) (b := true) (ops := c50.s2.s2.s1.rops) (fin := ({ act := (st 27 [(1, .pointer (some ⟨0, 0, none⟩)), (3, .int .i64 r1), (9, .pointer (some ⟨0, 0, none⟩)), (10, .agg ⟨[.int .i64 p0, .int .i64 p1]⟩), (11, .int .i64 r3), (12, .pointer (some ⟨0, 2, none⟩)), (13, .agg ⟨[.int .i64 p2, .int .i64 p3]⟩), (14, .int .i64 r5), (15, .bool false), (16, .bool false), (17, undef), (18, undef), (19, undef), (20, undef), (21, undef), (22, undef), (23, undef), (24, undef)]), heap := [.cells 25 [.int .i64 p0, .int .i64 p1, .int .i64 p2, .int .i64 p3]], own := [], upds := [] } : QSt)) (fin2 := ({ act := (st 27 [(1, .pointer (some ⟨0, 0, none⟩)), (3, .int .i64 r1), (9, .pointer (some ⟨0, 0, none⟩)), (10, .agg ⟨[.int .i64 p0, .int .i64 p1]⟩), (11, .int .i64 r3), (12, .pointer (some ⟨0, 2, none⟩)), (13, .agg ⟨[.int .i64 p2, .int .i64 p3]⟩), (14, .int .i64 r5), (15, .bool false), (16, .bool false), (17, undef), (18, undef), (19, undef), (20, undef), (21, undef), (22, undef), (23, undef), (24, undef)]), heap := [.cells 25 [.int .i64 p0, .int .i64 p1, .int .i64 p2, .int .i64 p3]], own := [], upds := [] } : QSt)) (a1 := (st 27 [(1, .pointer (some ⟨0, 0, none⟩)), (2, .bool false), (3, .int .i64 r1), (9, .pointer (some ⟨0, 0, none⟩)), (10, .agg ⟨[.int .i64 p0, .int .i64 p1]⟩), (11, .int .i64 r3), (12, .pointer (some ⟨0, 2, none⟩)), (13, .agg ⟨[.int .i64 p2, .int .i64 p3]⟩), (14, .int .i64 r5), (15, .bool false), (16, .bool false), (17, undef), (18, undef), (19, undef), (20, undef), (21, undef), (22, undef), (23, undef), (24, undef), (25, undef), (26, .bool false)])) (h1 := [.cells 25 [.int .i64 p0, .int .i64 p1, .int .i64 p2, .int .i64 p3]]) (a2 := (st 27 [(2, .bool false)])) (h2 := [.dead]) [⟨63, [.agg ⟨[.int .i64 p0, .int .i64 p1]⟩], [.cells 25 [.int .i64 p0, .int .i64 p1, .int .i64 p2, .int .i64 p3]], .int .i64 r3, []⟩, ⟨63, [.agg ⟨[.int .i64 p2, .int .i64 p3]⟩], [.cells 25 [.int .i64 p0, .int .i64 p1, .int .i64 p2, .int .i64 p3]], .int .i64 r5, []⟩] hT mixed (by kernel_rfl) rfl 16 (by kernel_rfl) [] ?_ rfl (.inl ⟨rfl, rfl⟩) ?_ [2] [] (by kernel_rfl) ?_
    · refine QI.run (s1 := ({ act := (st 27 [(1, .pointer (some ⟨0, 0, none⟩)), (3, .int .i64 r1), (9, .pointer (some ⟨0, 0, none⟩)), (10, .agg ⟨[.int .i64 p0, .int .i64 p1]⟩)]), heap := [.cells 25 [.int .i64 p0, .int .i64 p1, .int .i64 p2, .int .i64 p3]], own := [], upds := [] } : QSt)) 2 (by kernel_rfl) (by kernel_rfl) ?_
      refine QI.op (q := { val := .int .i64 r3, new := [] }) (s1 := ({ act := (st 27 [(1, .pointer (some ⟨0, 0, none⟩)), (3, .int .i64 r1), (9, .pointer (some ⟨0, 0, none⟩)), (10, .agg ⟨[.int .i64 p0, .int .i64 p1]⟩), (11, .int .i64 r3)]), heap := [.cells 25 [.int .i64 p0, .int .i64 p1, .int .i64 p2, .int .i64 p3]], own := [], upds := [] } : QSt)) (by decide) (qOf_call (g := 63) (args := [.agg ⟨[.int .i64 p0, .int .i64 p1]⟩]) (by kernel_rfl) lookC_hit) (by kernel_rfl) ?_
      refine QI.run (s1 := ({ act := (st 27 [(1, .pointer (some ⟨0, 0, none⟩)), (3, .int .i64 r1), (9, .pointer (some ⟨0, 0, none⟩)), (10, .agg ⟨[.int .i64 p0, .int .i64 p1]⟩), (11, .int .i64 r3), (12, .pointer (some ⟨0, 2, none⟩)), (13, .agg ⟨[.int .i64 p2, .int .i64 p3]⟩)]), heap := [.cells 25 [.int .i64 p0, .int .i64 p1, .int .i64 p2, .int .i64 p3]], own := [], upds := [] } : QSt)) 2 (by kernel_rfl) (by kernel_rfl) ?_
      refine QI.op (q := { val := .int .i64 r5, new := [] }) (s1 := ({ act := (st 27 [(1, .pointer (some ⟨0, 0, none⟩)), (3, .int .i64 r1), (9, .pointer (some ⟨0, 0, none⟩)), (10, .agg ⟨[.int .i64 p0, .int .i64 p1]⟩), (11, .int .i64 r3), (12, .pointer (some ⟨0, 2, none⟩)), (13, .agg ⟨[.int .i64 p2, .int .i64 p3]⟩), (14, .int .i64 r5)]), heap := [.cells 25 [.int .i64 p0, .int .i64 p1, .int .i64 p2, .int .i64 p3]], own := [], upds := [] } : QSt)) (by decide) (qOf_call (g := 63) (args := [.agg ⟨[.int .i64 p2, .int .i64 p3]⟩]) (by kernel_rfl) (lookC_skip (by intro _ ha _; have hq := h4; have hi := h6; clear hF; first | (exfalso; simp at ha; done) | ((try simp at ha); have hr := Option.some.inj (hq.symm.trans (Eq.trans (by first | rfl | (congr 1 <;> first | rfl | omega | simp_all)) hi)); subst hr; rfl)) lookC_hit)) (by kernel_rfl) ?_
      refine QI.op (q := { val := .bool false }) (s1 := ({ act := (st 27 [(1, .pointer (some ⟨0, 0, none⟩)), (3, .int .i64 r1), (9, .pointer (some ⟨0, 0, none⟩)), (10, .agg ⟨[.int .i64 p0, .int .i64 p1]⟩), (11, .int .i64 r3), (12, .pointer (some ⟨0, 2, none⟩)), (13, .agg ⟨[.int .i64 p2, .int .i64 p3]⟩), (14, .int .i64 r5), (15, .bool false)]), heap := [.cells 25 [.int .i64 p0, .int .i64 p1, .int .i64 p2, .int .i64 p3]], own := [], upds := [] } : QSt)) (by decide) (q_conv (e := decide (r3 ≤ r5)) (b := false) (by kernel_rfl) hc7) (by kernel_rfl) ?_
      refine QI.run (s1 := ({ act := (st 27 [(1, .pointer (some ⟨0, 0, none⟩)), (3, .int .i64 r1), (9, .pointer (some ⟨0, 0, none⟩)), (10, .agg ⟨[.int .i64 p0, .int .i64 p1]⟩), (11, .int .i64 r3), (12, .pointer (some ⟨0, 2, none⟩)), (13, .agg ⟨[.int .i64 p2, .int .i64 p3]⟩), (14, .int .i64 r5), (15, .bool false), (16, .bool false), (17, undef), (18, undef), (19, undef), (20, undef), (21, undef), (22, undef), (23, undef), (24, undef)]), heap := [.cells 25 [.int .i64 p0, .int .i64 p1, .int .i64 p2, .int .i64 p3]], own := [], upds := [] } : QSt)) 9 (by kernel_rfl) (by kernel_rfl) ?_
      exact QI.done (by kernel_rfl)
    · refine SI.run (a2 := (st 27 [(1, .pointer (some ⟨0, 0, none⟩)), (2, .bool false), (3, .int .i64 r1), (9, .pointer (some ⟨0, 0, none⟩)), (10, .agg ⟨[.int .i64 p0, .int .i64 p1]⟩), (11, .int .i64 r3), (12, .pointer (some ⟨0, 2, none⟩)), (13, .agg ⟨[.int .i64 p2, .int .i64 p3]⟩), (14, .int .i64 r5), (15, .bool false), (16, .bool false), (17, undef), (18, undef), (19, undef), (20, undef), (21, undef), (22, undef), (23, undef), (24, undef), (25, undef), (26, .bool false)])) (h2 := [.cells 25 [.int .i64 p0, .int .i64 p1, .int .i64 p2, .int .i64 p3]]) 3 (by kernel_rfl) ?_
      exact SI.done (by kernel_rfl)
    exact hK
theorem C50 (p0 : Int) (p1 : Int) (p2 : Int) (p3 : Int) (r : Bool) (hF : F50 p0 p1 p2 p3 = some r) : PureSim Try.prog 50 [.agg ⟨[.int .i64 p0, .int .i64 p1, .int .i64 p2, .int .i64 p3]⟩] [] (V50 0 r) (N50 0 r) :=
  PureSim.of_Fin Try.func50 (c := c50) (by kernel_rfl) (by kernel_rfl) 0 rfl [0] [] (by kernel_rfl) (B50 p0 p1 p2 p3 r hF)

-- agonic/magnet.Reduced
noncomputable def c14 : Code := Try.f14.code
def F14 (p0 : Int) (p1 : Int) (p2 : Int) (p3 : Int) : Option (Bool × Int) :=
  F20 p0 p1 p2 p3 >>= fun r1 =>
  if r1 != 0 then
    some (false, r1)
  else
    F50 p0 p1 p2 p3 >>= fun r4 =>
    some (r4, 0)
def V14 (b : Nat) (r : (Bool × Int)) : Value := .tuple ⟨[.bool r.1, .int .i64 r.2]⟩
def N14 (b : Nat) (r : (Bool × Int)) : List Blk := []
theorem B14 (p0 : Int) (p1 : Int) (p2 : Int) (p3 : Int) (r : (Bool × Int)) (hF : F14 p0 p1 p2 p3 = some r) : TS Try.prog 0 0 c14 (st 12 [(0, .agg ⟨[.int .i64 p0, .int .i64 p1, .int .i64 p2, .int .i64 p3]⟩)]) [] (NX Try.prog 0 0 [] (FinP Try.prog Try.f14 0 (V14 0 r) (N14 0 r))) := by
  unfold F14 at hF
  refine TS.seq' (x := c14.s1) (y := c14.s2) (by kernel_rfl) ?_
  refine TS.region' (id := 0) (b := false) (ops := c14.s1.rops) (by kernel_rfl) rfl ?_
  refine TI.run 3 [1] [0] (a2 := (st 12 [(1, .pointer (some ⟨0, 0, none⟩))])) (h2 := [.cells 25 [.int .i64 p0, .int .i64 p1, .int .i64 p2, .int .i64 p3]]) (by kernel_rfl) ?_
  refine TI.done (by kernel_rfl) ?_
  refine NX.sq ?_
  refine TS.seq' (x := c14.s2.s1) (y := c14.s2.s2) (by kernel_rfl) ?_
  refine TS.seq' (x := c14.s2.s1.s1) (y := c14.s2.s1.s2) (by kernel_rfl) ?_
  have hX := of_do hF
  clear hF
  obtain ⟨r1, h2, hF⟩ := hX
  refine TS.region' (id := 1) (b := false) (ops := c14.s2.s1.s1.rops) (by kernel_rfl) rfl ?_
  refine TI.run 1 [1, 5] [0] (a2 := (st 12 [(1, .pointer (some ⟨0, 0, none⟩)), (5, .agg ⟨[.int .i64 p0, .int .i64 p1, .int .i64 p2, .int .i64 p3]⟩)])) (h2 := [.cells 25 [.int .i64 p0, .int .i64 p1, .int .i64 p2, .int .i64 p3]]) (by kernel_rfl) ?_
  refine TI.callM (g := 20) (args := [.agg ⟨[.int .i64 p0, .int .i64 p1, .int .i64 p2, .int .i64 p3]⟩]) (v := .int .i64 r1) (new := []) (by kernel_rfl) (PureSim.any (C20 p0 p1 p2 p3 r1 h2) (flatL (by kernel_rfl)) (by kernel_rfl) [.cells 25 [.int .i64 p0, .int .i64 p1, .int .i64 p2, .int .i64 p3]]) [1, 6] [0] (a2 := (st 12 [(1, .pointer (some ⟨0, 0, none⟩)), (6, .int .i64 r1)])) (h2 := [.cells 25 [.int .i64 p0, .int .i64 p1, .int .i64 p2, .int .i64 p3]]) (by kernel_rfl) ?_
  refine TI.run 1 [1, 4] [0] (a2 := (st 12 [(1, .pointer (some ⟨0, 0, none⟩)), (4, .int .i64 r1)])) (h2 := [.cells 25 [.int .i64 p0, .int .i64 p1, .int .i64 p2, .int .i64 p3]]) (by kernel_rfl) ?_
  refine TI.done (by kernel_rfl) ?_
  refine NX.sq ?_
  refine TS.seq' (x := c14.s2.s1.s2.s1) (y := c14.s2.s1.s2.s2) (by kernel_rfl) ?_
  refine TS.region' (id := 2) (b := false) (ops := c14.s2.s1.s2.s1.rops) (by kernel_rfl) rfl ?_
  refine TI.run 2 [1, 4, 8] [0] (a2 := (st 12 [(1, .pointer (some ⟨0, 0, none⟩)), (4, .int .i64 r1), (8, .bool (r1 != 0))])) (h2 := [.cells 25 [.int .i64 p0, .int .i64 p1, .int .i64 p2, .int .i64 p3]]) (by kernel_rfl) ?_
  refine TI.done (by kernel_rfl) ?_
  refine NX.sq ?_
  refine TS.cond' (o := (.tmp 8)) (x := c14.s2.s1.s2.s2.th) (y := c14.s2.s1.s2.s2.el) (b := r1 != 0) (by kernel_rfl) (by kernel_rfl) (fun hc3 => ?_) (fun hc3 => ?_)
  · replace hF := of_pos hF hc3
    refine TS.seq' (x := c14.s2.s1.s2.s2.th.s1) (y := c14.s2.s1.s2.s2.th.s2) (by kernel_rfl) ?_
    refine TS.region' (id := 3) (b := false) (ops := c14.s2.s1.s2.s2.th.s1.rops) (by kernel_rfl) rfl ?_
    refine TI.run 3 [2, 3] [] (a2 := (st 12 [(2, .bool false), (3, .int .i64 r1)])) (h2 := [.dead]) (by kernel_rfl) ?_
    refine TI.done (by kernel_rfl) ?_
    refine NX.sq ?_
    refine TS.ret' (by kernel_rfl) ?_
    refine NX.sqR ?_
    have hF := Option.some.inj hF
    subst hF
    exact ⟨.inr rfl, rfl, .tuple ⟨[.bool false, .int .i64 r1]⟩, by kernel_rfl, WkV.flat0 (by kernel_rfl) (Nat.le_of_ble_eq_true rfl)⟩
  · replace hF := of_neg hF hc3
    refine TS.skip' (by kernel_rfl) ?_
    refine NX.sq ?_
    refine TS.seq' (x := c14.s2.s2.s1) (y := c14.s2.s2.s2) (by kernel_rfl) ?_
    have hX := of_do hF
    clear hF
    obtain ⟨r4, h5, hF⟩ := hX
    refine TS.region' (id := 4) (b := false) (ops := c14.s2.s2.s1.rops) (by kernel_rfl) rfl ?_
    refine TI.run 1 [10] [] (a2 := (st 12 [(10, .agg ⟨[.int .i64 p0, .int .i64 p1, .int .i64 p2, .int .i64 p3]⟩)])) (h2 := [.dead]) (by kernel_rfl) ?_
    refine TI.callM (g := 50) (args := [.agg ⟨[.int .i64 p0, .int .i64 p1, .int .i64 p2, .int .i64 p3]⟩]) (v := .bool r4) (new := []) (by kernel_rfl) (PureSim.any (C50 p0 p1 p2 p3 r4 h5) (flatL (by kernel_rfl)) (by kernel_rfl) [.dead]) [11] [] (a2 := (st 12 [(11, .bool r4)])) (h2 := [.dead]) (by kernel_rfl) ?_
    refine TI.run 2 [2, 3] [] (a2 := (st 12 [(2, .bool r4), (3, .int .i64 0)])) (h2 := [.dead]) (by kernel_rfl) ?_
    refine TI.done (by kernel_rfl) ?_
    refine NX.sq ?_
    refine TS.ret' (by kernel_rfl) ?_
    have hF := Option.some.inj hF
    subst hF
    exact ⟨.inr rfl, rfl, .tuple ⟨[.bool r4, .int .i64 0]⟩, by kernel_rfl, WkV.flat0 (by kernel_rfl) (Nat.le_of_ble_eq_true rfl)⟩
theorem C14 (p0 : Int) (p1 : Int) (p2 : Int) (p3 : Int) (r : (Bool × Int)) (hF : F14 p0 p1 p2 p3 = some r) : PureSim Try.prog 14 [.agg ⟨[.int .i64 p0, .int .i64 p1, .int .i64 p2, .int .i64 p3]⟩] [] (V14 0 r) (N14 0 r) :=
  PureSim.of_Fin Try.func14 (c := c14) (by kernel_rfl) (by kernel_rfl) 0 rfl [0] [] (by kernel_rfl) (B14 p0 p1 p2 p3 r hF)

-- agonic/agonicref06.is
noncomputable def c73 : Code := Try.f73.code
def F73 (p0 : Int) (p1 : Int) (p2 : Int) : Option Bool :=
  (
    if decide (p0 ≥ p1) then
      some (decide (p0 ≤ p2))
    else
      some (false)
  : Option Bool) >>= fun m2 =>
  some m2
def V73 (b : Nat) (r : Bool) : Value := .bool r
def N73 (b : Nat) (r : Bool) : List Blk := []
theorem B73 (p0 : Int) (p1 : Int) (p2 : Int) (r : Bool) (hF : F73 p0 p1 p2 = some r) : TS Try.prog 0 0 c73 (st 15 [(0, .int .i64 p0), (1, .int .i64 p1), (2, .int .i64 p2)]) [] (NX Try.prog 0 0 [] (FinP Try.prog Try.f73 0 (V73 0 r) (N73 0 r))) := by
  unfold F73 at hF
  refine TS.seq' (x := c73.s1) (y := c73.s2) (by kernel_rfl) ?_
  refine TS.region' (id := 0) (b := false) (ops := c73.s1.rops) (by kernel_rfl) rfl ?_
  refine TI.run 1 [0, 1, 2] [] (a2 := (st 15 [(0, .int .i64 p0), (1, .int .i64 p1), (2, .int .i64 p2)])) (h2 := []) (by kernel_rfl) ?_
  refine TI.done (by kernel_rfl) ?_
  refine NX.sq ?_
  refine TS.seq' (x := c73.s2.s1) (y := c73.s2.s2) (by kernel_rfl) ?_
  have hX := of_do hF
  clear hF
  obtain ⟨m2, hm3, hF⟩ := hX
  have hK : NX Try.prog 0 0 [.sq c73.s2.s2] (FinP Try.prog Try.f73 0 (V73 0 r) (N73 0 r)) .normal (st 15 [(6, .bool m2)]) [] := by
    refine NX.sq ?_
    refine TS.ret' (by kernel_rfl) ?_
    have hF := Option.some.inj hF
    subst hF
    exact ⟨.inr rfl, rfl, .bool m2, by kernel_rfl, WkV.flat0 (by kernel_rfl) (Nat.le_of_ble_eq_true rfl)⟩
  rcases Bool.eq_false_or_eq_true (decide (p0 ≥ p1)) with hc1 | hc1
  · replace hm3 := of_pos hm3 hc1
    have hm3 := Option.some.inj hm3
    subst hm3
    refine TS.region' (id := 1) (b := false) (ops := c73.s2.s1.rops) (by kernel_rfl) rfl ?_
    refine TI.run 2 [0, 2, 7, 8] [] (a2 := (st 15 [(0, .int .i64 p0), (2, .int .i64 p2), (7, .int .i64 p0), (8, .int .i64 p1)])) (h2 := []) (by kernel_rfl) ?_
    refine TI.op (q := { val := .bool true }) (q_conv (e := decide (p0 ≥ p1)) (b := true) (by kernel_rfl) hc1) [0, 2, 9] [] (a2 := (st 15 [(0, .int .i64 p0), (2, .int .i64 p2), (9, .bool true)])) (h2 := []) (by kernel_rfl) ?_
    refine TI.run 6 [6] [] (a2 := (st 15 [(6, .bool (decide (p0 ≤ p2)))])) (h2 := []) (by kernel_rfl) ?_
    refine TI.done (by kernel_rfl) ?_
    exact hK
  · replace hm3 := of_neg hm3 hc1
    have hm3 := Option.some.inj hm3
    subst hm3
    refine TS.region' (id := 1) (b := false) (ops := c73.s2.s1.rops) (by kernel_rfl) rfl ?_
    refine TI.run 2 [0, 2, 7, 8] [] (a2 := (st 15 [(0, .int .i64 p0), (2, .int .i64 p2), (7, .int .i64 p0), (8, .int .i64 p1)])) (h2 := []) (by kernel_rfl) ?_
    refine TI.op (q := { val := .bool false }) (q_conv (e := decide (p0 ≥ p1)) (b := false) (by kernel_rfl) hc1) [0, 2, 9] [] (a2 := (st 15 [(0, .int .i64 p0), (2, .int .i64 p2), (9, .bool false)])) (h2 := []) (by kernel_rfl) ?_
    refine TI.run 6 [6] [] (a2 := (st 15 [(6, .bool false)])) (h2 := []) (by kernel_rfl) ?_
    refine TI.done (by kernel_rfl) ?_
    exact hK
theorem C73 (p0 : Int) (p1 : Int) (p2 : Int) (r : Bool) (hF : F73 p0 p1 p2 = some r) : PureSim Try.prog 73 [.int .i64 p0, .int .i64 p1, .int .i64 p2] [] (V73 0 r) (N73 0 r) :=
  PureSim.of_Fin Try.func73 (c := c73) (by kernel_rfl) (by kernel_rfl) 0 rfl [0, 1, 2] [] (by kernel_rfl) (B73 p0 p1 p2 r hF)

-- agonic/agonicref06.within
noncomputable def c55 : Code := Try.f55.code
def F55 (p0 : Int) (p1 : Int) (p2 : Int) : Option Bool :=
  F73 p0 (w64 (0 - p2)) p2 >>= fun r1 =>
  (
    if r1 then
      F73 p1 (w64 (0 - p2)) p2 >>= fun r3 =>
      some (r3)
    else
      some (false)
  : Option Bool) >>= fun m5 =>
  some m5
def V55 (b : Nat) (r : Bool) : Value := .bool r
def N55 (b : Nat) (r : Bool) : List Blk := []
theorem B55 (p0 : Int) (p1 : Int) (p2 : Int) (r : Bool) (hF : F55 p0 p1 p2 = some r) : TS Try.prog 0 0 c55 (st 19 [(0, .agg ⟨[.int .i64 p0, .int .i64 p1]⟩), (1, .int .i64 p2)]) [] (NX Try.prog 0 0 [] (FinP Try.prog Try.f55 0 (V55 0 r) (N55 0 r))) := by
  unfold F55 at hF
  refine TS.seq' (x := c55.s1) (y := c55.s2) (by kernel_rfl) ?_
  refine TS.region' (id := 0) (b := false) (ops := c55.s1.rops) (by kernel_rfl) rfl ?_
  refine TI.run 2 [1, 2] [0] (a2 := (st 19 [(1, .int .i64 p2), (2, .pointer (some ⟨0, 0, none⟩))])) (h2 := [.cells 28 [.int .i64 p0, .int .i64 p1]]) (by kernel_rfl) ?_
  refine TI.done (by kernel_rfl) ?_
  refine NX.sq ?_
  refine TS.seq' (x := c55.s2.s1) (y := c55.s2.s2) (by kernel_rfl) ?_
  have hX := of_do hF
  clear hF
  obtain ⟨r1, h2, hF⟩ := hX
  have hX := of_do hF
  clear hF
  obtain ⟨m5, hm6, hF⟩ := hX
  have hK : NX Try.prog 0 0 [.sq c55.s2.s2] (FinP Try.prog Try.f55 0 (V55 0 r) (N55 0 r)) .normal (st 19 [(4, .bool m5)]) [.dead] := by
    refine NX.sq ?_
    refine TS.ret' (by kernel_rfl) ?_
    have hF := Option.some.inj hF
    subst hF
    exact ⟨.inr rfl, rfl, .bool m5, by kernel_rfl, WkV.flat0 (by kernel_rfl) (Nat.le_of_ble_eq_true rfl)⟩
  cases r1 with
  | true =>
    replace hm6 := of_pos hm6 rfl
    have hX := of_do hm6
    clear hm6
    obtain ⟨r3, h4, hm6⟩ := hX
    have hm6 := Option.some.inj hm6
    subst hm6
    refine TS.region' (id := 1) (b := false) (ops := c55.s2.s1.rops) (by kernel_rfl) rfl ?_
    refine TI.run 5 [1, 2, 6, 8, 9] [0] (a2 := (st 19 [(1, .int .i64 p2), (2, .pointer (some ⟨0, 0, none⟩)), (6, .int .i64 p0), (8, .int .i64 (w64 (0 - p2))), (9, .int .i64 p2)])) (h2 := [.cells 28 [.int .i64 p0, .int .i64 p1]]) (by kernel_rfl) ?_
    refine TI.callM (g := 73) (args := [.int .i64 p0, .int .i64 (w64 (0 - p2)), .int .i64 p2]) (v := .bool true) (new := []) (by kernel_rfl) (PureSim.any (C73 p0 (w64 (0 - p2)) p2 true h2) (flatL (by kernel_rfl)) (by kernel_rfl) [.cells 28 [.int .i64 p0, .int .i64 p1]]) [1, 2, 10] [0] (a2 := (st 19 [(1, .int .i64 p2), (2, .pointer (some ⟨0, 0, none⟩)), (10, .bool true)])) (h2 := [.cells 28 [.int .i64 p0, .int .i64 p1]]) (by kernel_rfl) ?_
    refine TI.run 6 [11, 13, 15, 16] [] (a2 := (st 19 [(11, .bool true), (13, .int .i64 p1), (15, .int .i64 (w64 (0 - p2))), (16, .int .i64 p2)])) (h2 := [.dead]) (by kernel_rfl) ?_
    refine TI.callM (g := 73) (args := [.int .i64 p1, .int .i64 (w64 (0 - p2)), .int .i64 p2]) (v := .bool r3) (new := []) (by kernel_rfl) (PureSim.any (C73 p1 (w64 (0 - p2)) p2 r3 h4) (flatL (by kernel_rfl)) (by kernel_rfl) [.dead]) [11, 17] [] (a2 := (st 19 [(11, .bool true), (17, .bool r3)])) (h2 := [.dead]) (by kernel_rfl) ?_
    refine TI.run 2 [4] [] (a2 := (st 19 [(4, .bool r3)])) (h2 := [.dead]) (by kernel_rfl) ?_
    refine TI.done (by kernel_rfl) ?_
    exact hK
  | false =>
    replace hm6 := of_neg hm6 rfl
    have hm6 := Option.some.inj hm6
    subst hm6
    refine TS.region' (id := 1) (b := false) (ops := c55.s2.s1.rops) (by kernel_rfl) rfl ?_
    refine TI.run 5 [1, 2, 6, 8, 9] [0] (a2 := (st 19 [(1, .int .i64 p2), (2, .pointer (some ⟨0, 0, none⟩)), (6, .int .i64 p0), (8, .int .i64 (w64 (0 - p2))), (9, .int .i64 p2)])) (h2 := [.cells 28 [.int .i64 p0, .int .i64 p1]]) (by kernel_rfl) ?_
    refine TI.callM (g := 73) (args := [.int .i64 p0, .int .i64 (w64 (0 - p2)), .int .i64 p2]) (v := .bool false) (new := []) (by kernel_rfl) (PureSim.any (C73 p0 (w64 (0 - p2)) p2 false h2) (flatL (by kernel_rfl)) (by kernel_rfl) [.cells 28 [.int .i64 p0, .int .i64 p1]]) [1, 2, 10] [0] (a2 := (st 19 [(1, .int .i64 p2), (2, .pointer (some ⟨0, 0, none⟩)), (10, .bool false)])) (h2 := [.cells 28 [.int .i64 p0, .int .i64 p1]]) (by kernel_rfl) ?_
    refine TI.run 9 [4] [] (a2 := (st 19 [(4, .bool false)])) (h2 := [.dead]) (by kernel_rfl) ?_
    refine TI.done (by kernel_rfl) ?_
    exact hK
theorem C55 (p0 : Int) (p1 : Int) (p2 : Int) (r : Bool) (hF : F55 p0 p1 p2 = some r) : PureSim Try.prog 55 [.agg ⟨[.int .i64 p0, .int .i64 p1]⟩, .int .i64 p2] [] (V55 0 r) (N55 0 r) :=
  PureSim.of_Fin Try.func55 (c := c55) (by kernel_rfl) (by kernel_rfl) 0 rfl [0, 1] [] (by kernel_rfl) (B55 p0 p1 p2 r hF)

-- agonic/agonicref06.area
noncomputable def c60 : Code := Try.f60.code
def F60 (p0 : Int) (p1 : Int) (p2 : Int) (p3 : Int) : Option Int :=
  some (if (w64 ((w64 (p1 * p2)) - (w64 (p0 * p3)))) > (w64 ((w64 (p0 * p3)) - (w64 (p1 * p2)))) then (w64 ((w64 (p1 * p2)) - (w64 (p0 * p3)))) else (w64 ((w64 (p0 * p3)) - (w64 (p1 * p2))))) >>= fun o1 =>
  some o1
def V60 (b : Nat) (r : Int) : Value := .int .i64 r
def N60 (b : Nat) (r : Int) : List Blk := []
theorem B60 (p0 : Int) (p1 : Int) (p2 : Int) (p3 : Int) (r : Int) (hF : F60 p0 p1 p2 p3 = some r) : TS Try.prog 0 0 c60 (st 28 [(0, .agg ⟨[.int .i64 p0, .int .i64 p1]⟩), (1, .agg ⟨[.int .i64 p2, .int .i64 p3]⟩)]) [] (NX Try.prog 0 0 [] (FinP Try.prog Try.f60 0 (V60 0 r) (N60 0 r))) := by
  unfold F60 at hF
  refine TS.seq' (x := c60.s1) (y := c60.s2) (by kernel_rfl) ?_
  refine TS.region' (id := 0) (b := false) (ops := c60.s1.rops) (by kernel_rfl) rfl ?_
  refine TI.run 3 [2, 3] [0, 1] (a2 := (st 28 [(2, .pointer (some ⟨0, 0, none⟩)), (3, .pointer (some ⟨1, 0, none⟩))])) (h2 := [.cells 28 [.int .i64 p0, .int .i64 p1], .cells 28 [.int .i64 p2, .int .i64 p3]]) (by kernel_rfl) ?_
  refine TI.done (by kernel_rfl) ?_
  refine NX.sq ?_
  refine TS.seq' (x := c60.s2.s1) (y := c60.s2.s2) (by kernel_rfl) ?_
  have hX := of_do hF
  clear hF
  obtain ⟨o1, h2, hF⟩ := hX
  replace h2 := Option.some.inj h2
  refine TS.region' (id := 1) (b := false) (ops := c60.s2.s1.rops) (by kernel_rfl) rfl ?_
  refine TI.run 22 [15, 26] [] (a2 := (st 28 [(15, .int .i64 (w64 ((w64 (p0 * p3)) - (w64 (p1 * p2))))), (26, .int .i64 (w64 ((w64 (p1 * p2)) - (w64 (p0 * p3)))))])) (h2 := [.dead, .dead]) (by kernel_rfl) ?_
  refine TI.op (q := { val := .int .i64 o1 }) (q_convI (e := if (w64 ((w64 (p1 * p2)) - (w64 (p0 * p3)))) > (w64 ((w64 (p0 * p3)) - (w64 (p1 * p2)))) then (w64 ((w64 (p1 * p2)) - (w64 (p0 * p3)))) else (w64 ((w64 (p0 * p3)) - (w64 (p1 * p2))))) (y := o1) (by kernel_rfl) h2) [27] [] (a2 := (st 28 [(27, .int .i64 o1)])) (h2 := [.dead, .dead]) (by kernel_rfl) ?_
  refine TI.run 1 [4] [] (a2 := (st 28 [(4, .int .i64 o1)])) (h2 := [.dead, .dead]) (by kernel_rfl) ?_
  refine TI.done (by kernel_rfl) ?_
  refine NX.sq ?_
  refine TS.ret' (by kernel_rfl) ?_
  have hF := Option.some.inj hF
  subst hF
  exact ⟨.inr rfl, rfl, .int .i64 o1, by kernel_rfl, WkV.flat0 (by kernel_rfl) (Nat.le_of_ble_eq_true rfl)⟩
theorem C60 (p0 : Int) (p1 : Int) (p2 : Int) (p3 : Int) (r : Int) (hF : F60 p0 p1 p2 p3 = some r) : PureSim Try.prog 60 [.agg ⟨[.int .i64 p0, .int .i64 p1]⟩, .agg ⟨[.int .i64 p2, .int .i64 p3]⟩] [] (V60 0 r) (N60 0 r) :=
  PureSim.of_Fin Try.func60 (c := c60) (by kernel_rfl) (by kernel_rfl) 0 rfl [0, 1] [] (by kernel_rfl) (B60 p0 p1 p2 p3 r hF)

-- agonic/agonicref06.Check
noncomputable def c21 : Code := Try.f21.code
def F21 (p0 : Int) (p1 : Int) (p2 : Int) (p3 : Int) : Option Int :=
  F55 p0 p1 1000 >>= fun r1 =>
  (
    if r1 then
      F55 p2 p3 1000 >>= fun r3 =>
      if r3 then
        some (false)
      else
        some (true)
    else
      some (true)
  : Option Bool) >>= fun m5 =>
  if m5 then
    some 1
  else
    F60 p0 p1 p2 p3 >>= fun r6 =>
    if r6 == 0 then
      some 15
    else
      some 0
def V21 (b : Nat) (r : Int) : Value := .int .i64 r
def N21 (b : Nat) (r : Int) : List Blk := []
theorem B21 (p0 : Int) (p1 : Int) (p2 : Int) (p3 : Int) (r : Int) (hF : F21 p0 p1 p2 p3 = some r) : TS Try.prog 0 0 c21 (st 19 [(0, .agg ⟨[.int .i64 p0, .int .i64 p1, .int .i64 p2, .int .i64 p3]⟩)]) [] (NX Try.prog 0 0 [] (FinP Try.prog Try.f21 0 (V21 0 r) (N21 0 r))) := by
  unfold F21 at hF
  refine TS.seq' (x := c21.s1) (y := c21.s2) (by kernel_rfl) ?_
  refine TS.region' (id := 0) (b := false) (ops := c21.s1.rops) (by kernel_rfl) rfl ?_
  refine TI.run 2 [1] [0] (a2 := (st 19 [(1, .pointer (some ⟨0, 0, none⟩))])) (h2 := [.cells 30 [.int .i64 p0, .int .i64 p1, .int .i64 p2, .int .i64 p3]]) (by kernel_rfl) ?_
  refine TI.done (by kernel_rfl) ?_
  refine NX.sq ?_
  refine TS.seq' (x := c21.s2.s1) (y := c21.s2.s2) (by kernel_rfl) ?_
  refine TS.seq' (x := c21.s2.s1.s1) (y := c21.s2.s1.s2) (by kernel_rfl) ?_
  have hX := of_do hF
  clear hF
  obtain ⟨r1, h2, hF⟩ := hX
  have hX := of_do hF
  clear hF
  obtain ⟨m5, hm9, hF⟩ := hX
  have hK : NX Try.prog 0 0 [.sq c21.s2.s1.s2, .sq c21.s2.s2] (FinP Try.prog Try.f21 0 (V21 0 r) (N21 0 r)) .normal (st 19 [(1, .pointer (some ⟨0, 0, none⟩)), (12, .bool m5)]) [.cells 30 [.int .i64 p0, .int .i64 p1, .int .i64 p2, .int .i64 p3]] := by
    refine NX.sq ?_
    cases m5 with
    | true =>
      replace hF := of_pos hF rfl
      refine TS.condT' (o := (.tmp 12)) (x := c21.s2.s1.s2.th) (y := c21.s2.s1.s2.el) (by kernel_rfl) (by kernel_rfl) ?_
      refine TS.seq' (x := c21.s2.s1.s2.th.s1) (y := c21.s2.s1.s2.th.s2) (by kernel_rfl) ?_
      refine TS.region' (id := 2) (b := false) (ops := c21.s2.s1.s2.th.s1.rops) (by kernel_rfl) rfl ?_
      refine TI.run 1 [2] [] (a2 := (st 19 [(2, .int .i64 1)])) (h2 := [.dead]) (by kernel_rfl) ?_
      refine TI.done (by kernel_rfl) ?_
      refine NX.sq ?_
      refine TS.ret' (by kernel_rfl) ?_
      refine NX.sqR ?_
      have hF := Option.some.inj hF
      subst hF
      exact ⟨.inr rfl, rfl, .int .i64 1, by kernel_rfl, WkV.flat0 (by kernel_rfl) (Nat.le_of_ble_eq_true rfl)⟩
    | false =>
      replace hF := of_neg hF rfl
      refine TS.condF' (o := (.tmp 12)) (x := c21.s2.s1.s2.th) (y := c21.s2.s1.s2.el) (by kernel_rfl) (by kernel_rfl) ?_
      refine TS.skip' (by kernel_rfl) ?_
      refine NX.sq ?_
      refine TS.seq' (x := c21.s2.s2.s1) (y := c21.s2.s2.s2) (by kernel_rfl) ?_
      refine TS.seq' (x := c21.s2.s2.s1.s1) (y := c21.s2.s2.s1.s2) (by kernel_rfl) ?_
      have hX := of_do hF
      clear hF
      obtain ⟨r6, h7, hF⟩ := hX
      refine TS.region' (id := 3) (b := false) (ops := c21.s2.s2.s1.s1.rops) (by kernel_rfl) rfl ?_
      refine TI.run 4 [14, 16] [] (a2 := (st 19 [(14, .agg ⟨[.int .i64 p0, .int .i64 p1]⟩), (16, .agg ⟨[.int .i64 p2, .int .i64 p3]⟩)])) (h2 := [.dead]) (by kernel_rfl) ?_
      refine TI.callM (g := 60) (args := [.agg ⟨[.int .i64 p0, .int .i64 p1]⟩, .agg ⟨[.int .i64 p2, .int .i64 p3]⟩]) (v := .int .i64 r6) (new := []) (by kernel_rfl) (PureSim.any (C60 p0 p1 p2 p3 r6 h7) (flatL (by kernel_rfl)) (by kernel_rfl) [.dead]) [17] [] (a2 := (st 19 [(17, .int .i64 r6)])) (h2 := [.dead]) (by kernel_rfl) ?_
      refine TI.run 1 [18] [] (a2 := (st 19 [(18, .bool (r6 == 0))])) (h2 := [.dead]) (by kernel_rfl) ?_
      refine TI.done (by kernel_rfl) ?_
      refine NX.sq ?_
      refine TS.cond' (o := (.tmp 18)) (x := c21.s2.s2.s1.s2.th) (y := c21.s2.s2.s1.s2.el) (b := r6 == 0) (by kernel_rfl) (by kernel_rfl) (fun hc8 => ?_) (fun hc8 => ?_)
      · replace hF := of_pos hF hc8
        refine TS.seq' (x := c21.s2.s2.s1.s2.th.s1) (y := c21.s2.s2.s1.s2.th.s2) (by kernel_rfl) ?_
        refine TS.region' (id := 4) (b := false) (ops := c21.s2.s2.s1.s2.th.s1.rops) (by kernel_rfl) rfl ?_
        refine TI.run 1 [2] [] (a2 := (st 19 [(2, .int .i64 15)])) (h2 := [.dead]) (by kernel_rfl) ?_
        refine TI.done (by kernel_rfl) ?_
        refine NX.sq ?_
        refine TS.ret' (by kernel_rfl) ?_
        refine NX.sqR ?_
        have hF := Option.some.inj hF
        subst hF
        exact ⟨.inr rfl, rfl, .int .i64 15, by kernel_rfl, WkV.flat0 (by kernel_rfl) (Nat.le_of_ble_eq_true rfl)⟩
      · replace hF := of_neg hF hc8
        refine TS.skip' (by kernel_rfl) ?_
        refine NX.sq ?_
        refine TS.seq' (x := c21.s2.s2.s2.s1) (y := c21.s2.s2.s2.s2) (by kernel_rfl) ?_
        refine TS.region' (id := 5) (b := false) (ops := c21.s2.s2.s2.s1.rops) (by kernel_rfl) rfl ?_
        refine TI.run 1 [2] [] (a2 := (st 19 [(2, .int .i64 0)])) (h2 := [.dead]) (by kernel_rfl) ?_
        refine TI.done (by kernel_rfl) ?_
        refine NX.sq ?_
        refine TS.ret' (by kernel_rfl) ?_
        have hF := Option.some.inj hF
        subst hF
        exact ⟨.inr rfl, rfl, .int .i64 0, by kernel_rfl, WkV.flat0 (by kernel_rfl) (Nat.le_of_ble_eq_true rfl)⟩
  cases r1 with
  | true =>
    replace hm9 := of_pos hm9 rfl
    have hX := of_do hm9
    clear hm9
    obtain ⟨r3, h4, hm9⟩ := hX
    cases r3 with
    | true =>
      replace hm9 := of_pos hm9 rfl
      have hm9 := Option.some.inj hm9
      subst hm9
      refine TS.region' (id := 1) (b := false) (ops := c21.s2.s1.s1.rops) (by kernel_rfl) rfl ?_
      refine TI.run 2 [1, 4] [0] (a2 := (st 19 [(1, .pointer (some ⟨0, 0, none⟩)), (4, .agg ⟨[.int .i64 p0, .int .i64 p1]⟩)])) (h2 := [.cells 30 [.int .i64 p0, .int .i64 p1, .int .i64 p2, .int .i64 p3]]) (by kernel_rfl) ?_
      refine TI.callM (g := 55) (args := [.agg ⟨[.int .i64 p0, .int .i64 p1]⟩, .int .i64 1000]) (v := .bool true) (new := []) (by kernel_rfl) (PureSim.any (C55 p0 p1 1000 true h2) (flatL (by kernel_rfl)) (by kernel_rfl) [.cells 30 [.int .i64 p0, .int .i64 p1, .int .i64 p2, .int .i64 p3]]) [1, 5] [0] (a2 := (st 19 [(1, .pointer (some ⟨0, 0, none⟩)), (5, .bool true)])) (h2 := [.cells 30 [.int .i64 p0, .int .i64 p1, .int .i64 p2, .int .i64 p3]]) (by kernel_rfl) ?_
      refine TI.run 4 [1, 7, 9] [0] (a2 := (st 19 [(1, .pointer (some ⟨0, 0, none⟩)), (7, .bool false), (9, .agg ⟨[.int .i64 p2, .int .i64 p3]⟩)])) (h2 := [.cells 30 [.int .i64 p0, .int .i64 p1, .int .i64 p2, .int .i64 p3]]) (by kernel_rfl) ?_
      refine TI.callM (g := 55) (args := [.agg ⟨[.int .i64 p2, .int .i64 p3]⟩, .int .i64 1000]) (v := .bool true) (new := []) (by kernel_rfl) (PureSim.any (C55 p2 p3 1000 true h4) (flatL (by kernel_rfl)) (by kernel_rfl) [.cells 30 [.int .i64 p0, .int .i64 p1, .int .i64 p2, .int .i64 p3]]) [1, 7, 10] [0] (a2 := (st 19 [(1, .pointer (some ⟨0, 0, none⟩)), (7, .bool false), (10, .bool true)])) (h2 := [.cells 30 [.int .i64 p0, .int .i64 p1, .int .i64 p2, .int .i64 p3]]) (by kernel_rfl) ?_
      refine TI.run 2 [1, 12] [0] (a2 := (st 19 [(1, .pointer (some ⟨0, 0, none⟩)), (12, .bool false)])) (h2 := [.cells 30 [.int .i64 p0, .int .i64 p1, .int .i64 p2, .int .i64 p3]]) (by kernel_rfl) ?_
      refine TI.done (by kernel_rfl) ?_
      exact hK
    | false =>
      replace hm9 := of_neg hm9 rfl
      have hm9 := Option.some.inj hm9
      subst hm9
      refine TS.region' (id := 1) (b := false) (ops := c21.s2.s1.s1.rops) (by kernel_rfl) rfl ?_
      refine TI.run 2 [1, 4] [0] (a2 := (st 19 [(1, .pointer (some ⟨0, 0, none⟩)), (4, .agg ⟨[.int .i64 p0, .int .i64 p1]⟩)])) (h2 := [.cells 30 [.int .i64 p0, .int .i64 p1, .int .i64 p2, .int .i64 p3]]) (by kernel_rfl) ?_
      refine TI.callM (g := 55) (args := [.agg ⟨[.int .i64 p0, .int .i64 p1]⟩, .int .i64 1000]) (v := .bool true) (new := []) (by kernel_rfl) (PureSim.any (C55 p0 p1 1000 true h2) (flatL (by kernel_rfl)) (by kernel_rfl) [.cells 30 [.int .i64 p0, .int .i64 p1, .int .i64 p2, .int .i64 p3]]) [1, 5] [0] (a2 := (st 19 [(1, .pointer (some ⟨0, 0, none⟩)), (5, .bool true)])) (h2 := [.cells 30 [.int .i64 p0, .int .i64 p1, .int .i64 p2, .int .i64 p3]]) (by kernel_rfl) ?_
      refine TI.run 4 [1, 7, 9] [0] (a2 := (st 19 [(1, .pointer (some ⟨0, 0, none⟩)), (7, .bool false), (9, .agg ⟨[.int .i64 p2, .int .i64 p3]⟩)])) (h2 := [.cells 30 [.int .i64 p0, .int .i64 p1, .int .i64 p2, .int .i64 p3]]) (by kernel_rfl) ?_
      refine TI.callM (g := 55) (args := [.agg ⟨[.int .i64 p2, .int .i64 p3]⟩, .int .i64 1000]) (v := .bool false) (new := []) (by kernel_rfl) (PureSim.any (C55 p2 p3 1000 false h4) (flatL (by kernel_rfl)) (by kernel_rfl) [.cells 30 [.int .i64 p0, .int .i64 p1, .int .i64 p2, .int .i64 p3]]) [1, 7, 10] [0] (a2 := (st 19 [(1, .pointer (some ⟨0, 0, none⟩)), (7, .bool false), (10, .bool false)])) (h2 := [.cells 30 [.int .i64 p0, .int .i64 p1, .int .i64 p2, .int .i64 p3]]) (by kernel_rfl) ?_
      refine TI.run 2 [1, 12] [0] (a2 := (st 19 [(1, .pointer (some ⟨0, 0, none⟩)), (12, .bool true)])) (h2 := [.cells 30 [.int .i64 p0, .int .i64 p1, .int .i64 p2, .int .i64 p3]]) (by kernel_rfl) ?_
      refine TI.done (by kernel_rfl) ?_
      exact hK
  | false =>
    replace hm9 := of_neg hm9 rfl
    have hm9 := Option.some.inj hm9
    subst hm9
    refine TS.region' (id := 1) (b := false) (ops := c21.s2.s1.s1.rops) (by kernel_rfl) rfl ?_
    refine TI.run 2 [1, 4] [0] (a2 := (st 19 [(1, .pointer (some ⟨0, 0, none⟩)), (4, .agg ⟨[.int .i64 p0, .int .i64 p1]⟩)])) (h2 := [.cells 30 [.int .i64 p0, .int .i64 p1, .int .i64 p2, .int .i64 p3]]) (by kernel_rfl) ?_
    refine TI.callM (g := 55) (args := [.agg ⟨[.int .i64 p0, .int .i64 p1]⟩, .int .i64 1000]) (v := .bool false) (new := []) (by kernel_rfl) (PureSim.any (C55 p0 p1 1000 false h2) (flatL (by kernel_rfl)) (by kernel_rfl) [.cells 30 [.int .i64 p0, .int .i64 p1, .int .i64 p2, .int .i64 p3]]) [1, 5] [0] (a2 := (st 19 [(1, .pointer (some ⟨0, 0, none⟩)), (5, .bool false)])) (h2 := [.cells 30 [.int .i64 p0, .int .i64 p1, .int .i64 p2, .int .i64 p3]]) (by kernel_rfl) ?_
    refine TI.run 7 [1, 12] [0] (a2 := (st 19 [(1, .pointer (some ⟨0, 0, none⟩)), (12, .bool true)])) (h2 := [.cells 30 [.int .i64 p0, .int .i64 p1, .int .i64 p2, .int .i64 p3]]) (by kernel_rfl) ?_
    refine TI.done (by kernel_rfl) ?_
    exact hK
theorem C21 (p0 : Int) (p1 : Int) (p2 : Int) (p3 : Int) (r : Int) (hF : F21 p0 p1 p2 p3 = some r) : PureSim Try.prog 21 [.agg ⟨[.int .i64 p0, .int .i64 p1, .int .i64 p2, .int .i64 p3]⟩] [] (V21 0 r) (N21 0 r) :=
  PureSim.of_Fin Try.func21 (c := c21) (by kernel_rfl) (by kernel_rfl) 0 rfl [0] [] (by kernel_rfl) (B21 p0 p1 p2 p3 r hF)

-- agonic/agonicref06.product
noncomputable def c64 : Code := Try.f64.code
def F64 (p0 : Int) (p1 : Int) (p2 : Int) (p3 : Int) : Option Int :=
  some (w64 ((w64 (p0 * p2)) + (w64 (p1 * p3))))
def V64 (b : Nat) (r : Int) : Value := .int .i64 r
def N64 (b : Nat) (r : Int) : List Blk := []
theorem B64 (p0 : Int) (p1 : Int) (p2 : Int) (p3 : Int) (r : Int) (hF : F64 p0 p1 p2 p3 = some r) : TS Try.prog 0 0 c64 (st 16 [(0, .agg ⟨[.int .i64 p0, .int .i64 p1]⟩), (1, .agg ⟨[.int .i64 p2, .int .i64 p3]⟩)]) [] (NX Try.prog 0 0 [] (FinP Try.prog Try.f64 0 (V64 0 r) (N64 0 r))) := by
  unfold F64 at hF
  refine TS.seq' (x := c64.s1) (y := c64.s2) (by kernel_rfl) ?_
  refine TS.region' (id := 0) (b := false) (ops := c64.s1.rops) (by kernel_rfl) rfl ?_
  refine TI.run 3 [2, 3] [0, 1] (a2 := (st 16 [(2, .pointer (some ⟨0, 0, none⟩)), (3, .pointer (some ⟨1, 0, none⟩))])) (h2 := [.cells 28 [.int .i64 p0, .int .i64 p1], .cells 28 [.int .i64 p2, .int .i64 p3]]) (by kernel_rfl) ?_
  refine TI.done (by kernel_rfl) ?_
  refine NX.sq ?_
  refine TS.seq' (x := c64.s2.s1) (y := c64.s2.s2) (by kernel_rfl) ?_
  refine TS.region' (id := 1) (b := false) (ops := c64.s2.s1.rops) (by kernel_rfl) rfl ?_
  refine TI.run 12 [4] [] (a2 := (st 16 [(4, .int .i64 (w64 ((w64 (p0 * p2)) + (w64 (p1 * p3)))))])) (h2 := [.dead, .dead]) (by kernel_rfl) ?_
  refine TI.done (by kernel_rfl) ?_
  refine NX.sq ?_
  refine TS.ret' (by kernel_rfl) ?_
  have hF := Option.some.inj hF
  subst hF
  exact ⟨.inr rfl, rfl, .int .i64 (w64 ((w64 (p0 * p2)) + (w64 (p1 * p3)))), by kernel_rfl, WkV.flat0 (by kernel_rfl) (Nat.le_of_ble_eq_true rfl)⟩
theorem C64 (p0 : Int) (p1 : Int) (p2 : Int) (p3 : Int) (r : Int) (hF : F64 p0 p1 p2 p3 = some r) : PureSim Try.prog 64 [.agg ⟨[.int .i64 p0, .int .i64 p1]⟩, .agg ⟨[.int .i64 p2, .int .i64 p3]⟩] [] (V64 0 r) (N64 0 r) :=
  PureSim.of_Fin Try.func64 (c := c64) (by kernel_rfl) (by kernel_rfl) 0 rfl [0, 1] [] (by kernel_rfl) (B64 p0 p1 p2 p3 r hF)

-- agonic/agonicref06.reduced
noncomputable def c51 : Code := Try.f51.code
def F51 (p0 : Int) (p1 : Int) (p2 : Int) (p3 : Int) : Option Bool :=
  F64 p0 p1 p2 p3 >>= fun r1 =>
  F64 p0 p1 p0 p1 >>= fun r3 =>
  F64 p2 p3 p2 p3 >>= fun r5 =>
  (
    if decide (r3 ≤ r5) then
      some (w64 (2 * (if (w64 (0 - r1)) > r1 then (w64 (0 - r1)) else r1))) >>= fun o8 =>
      F64 p0 p1 p0 p1 >>= fun r10 =>
      some (decide (o8 ≤ r10))
    else
      some (false)
  : Option Bool) >>= fun m12 =>
  some m12
def V51 (b : Nat) (r : Bool) : Value := .bool r
def N51 (b : Nat) (r : Bool) : List Blk := []
theorem B51 (p0 : Int) (p1 : Int) (p2 : Int) (p3 : Int) (r : Bool) (hF : F51 p0 p1 p2 p3 = some r) : TS Try.prog 0 0 c51 (st 33 [(0, .agg ⟨[.int .i64 p0, .int .i64 p1, .int .i64 p2, .int .i64 p3]⟩)]) [] (NX Try.prog 0 0 [] (FinP Try.prog Try.f51 0 (V51 0 r) (N51 0 r))) := by
  unfold F51 at hF
  refine TS.seq' (x := c51.s1) (y := c51.s2) (by kernel_rfl) ?_
  refine TS.region' (id := 0) (b := false) (ops := c51.s1.rops) (by kernel_rfl) rfl ?_
  refine TI.run 2 [1] [0] (a2 := (st 33 [(1, .pointer (some ⟨0, 0, none⟩))])) (h2 := [.cells 30 [.int .i64 p0, .int .i64 p1, .int .i64 p2, .int .i64 p3]]) (by kernel_rfl) ?_
  refine TI.done (by kernel_rfl) ?_
  refine NX.sq ?_
  refine TS.seq' (x := c51.s2.s1) (y := c51.s2.s2) (by kernel_rfl) ?_
  have hX := of_do hF
  clear hF
  obtain ⟨r1, h2, hF⟩ := hX
  refine TS.region' (id := 1) (b := false) (ops := c51.s2.s1.rops) (by kernel_rfl) rfl ?_
  refine TI.run 4 [1, 5, 7] [0] (a2 := (st 33 [(1, .pointer (some ⟨0, 0, none⟩)), (5, .agg ⟨[.int .i64 p0, .int .i64 p1]⟩), (7, .agg ⟨[.int .i64 p2, .int .i64 p3]⟩)])) (h2 := [.cells 30 [.int .i64 p0, .int .i64 p1, .int .i64 p2, .int .i64 p3]]) (by kernel_rfl) ?_
  refine TI.callM (g := 64) (args := [.agg ⟨[.int .i64 p0, .int .i64 p1]⟩, .agg ⟨[.int .i64 p2, .int .i64 p3]⟩]) (v := .int .i64 r1) (new := []) (by kernel_rfl) (PureSim.any (C64 p0 p1 p2 p3 r1 h2) (flatL (by kernel_rfl)) (by kernel_rfl) [.cells 30 [.int .i64 p0, .int .i64 p1, .int .i64 p2, .int .i64 p3]]) [1, 8] [0] (a2 := (st 33 [(1, .pointer (some ⟨0, 0, none⟩)), (8, .int .i64 r1)])) (h2 := [.cells 30 [.int .i64 p0, .int .i64 p1, .int .i64 p2, .int .i64 p3]]) (by kernel_rfl) ?_
  refine TI.run 1 [1, 3] [0] (a2 := (st 33 [(1, .pointer (some ⟨0, 0, none⟩)), (3, .int .i64 r1)])) (h2 := [.cells 30 [.int .i64 p0, .int .i64 p1, .int .i64 p2, .int .i64 p3]]) (by kernel_rfl) ?_
  refine TI.done (by kernel_rfl) ?_
  refine NX.sq ?_
  refine TS.seq' (x := c51.s2.s2.s1) (y := c51.s2.s2.s2) (by kernel_rfl) ?_
  have hX := of_do hF
  clear hF
  obtain ⟨r3, h4, hF⟩ := hX
  have hX := of_do hF
  clear hF
  obtain ⟨r5, h6, hF⟩ := hX
  have hX := of_do hF
  clear hF
  obtain ⟨m12, hm13, hF⟩ := hX
  have hK : NX Try.prog 0 0 [.sq c51.s2.s2.s2] (FinP Try.prog Try.f51 0 (V51 0 r) (N51 0 r)) .normal (st 33 [(2, .bool m12)]) [.dead] := by
    refine NX.sq ?_
    refine TS.ret' (by kernel_rfl) ?_
    have hF := Option.some.inj hF
    subst hF
    exact ⟨.inr rfl, rfl, .bool m12, by kernel_rfl, WkV.flat0 (by kernel_rfl) (Nat.le_of_ble_eq_true rfl)⟩
  rcases Bool.eq_false_or_eq_true (decide (r3 ≤ r5)) with hc7 | hc7
  · replace hm13 := of_pos hm13 hc7
    have hX := of_do hm13
    clear hm13
    obtain ⟨o8, h9, hm13⟩ := hX
    replace h9 := Option.some.inj h9
    have hX := of_do hm13
    clear hm13
    obtain ⟨r10, h11, hm13⟩ := hX
    have hm13 := Option.some.inj hm13
    subst hm13
    have hT : ∀ e ∈ ([⟨64, [.agg ⟨[.int .i64 p0, .int .i64 p1]⟩, .agg ⟨[.int .i64 p0, .int .i64 p1]⟩], [.cells 30 [.int .i64 p0, .int .i64 p1, .int .i64 p2, .int .i64 p3]], .int .i64 r3, []⟩, ⟨64, [.agg ⟨[.int .i64 p2, .int .i64 p3]⟩, .agg ⟨[.int .i64 p2, .int .i64 p3]⟩], [.cells 30 [.int .i64 p0, .int .i64 p1, .int .i64 p2, .int .i64 p3]], .int .i64 r5, []⟩, ⟨64, [.agg ⟨[.int .i64 p0, .int .i64 p1]⟩, .agg ⟨[.int .i64 p0, .int .i64 p1]⟩], [.cells 30 [.int .i64 p0, .int .i64 p1, .int .i64 p2, .int .i64 p3]], .int .i64 r10, []⟩] : List Entry), PureSim Try.prog e.g e.args e.h e.v e.new := by
      intro e he
      simp only [List.mem_cons, List.not_mem_nil, or_false] at he
      rcases he with rfl | rfl | rfl
      · exact (PureSim.any (C64 p0 p1 p0 p1 r3 h4) (flatL (by kernel_rfl)) (by kernel_rfl) [.cells 30 [.int .i64 p0, .int .i64 p1, .int .i64 p2, .int .i64 p3]])
      · exact (PureSim.any (C64 p2 p3 p2 p3 r5 h6) (flatL (by kernel_rfl)) (by kernel_rfl) [.cells 30 [.int .i64 p0, .int .i64 p1, .int .i64 p2, .int .i64 p3]])
      · exact (PureSim.any (C64 p0 p1 p0 p1 r10 h11) (flatL (by kernel_rfl)) (by kernel_rfl) [.cells 30 [.int .i64 p0, .int .i64 p1, .int .i64 p2, .int .i64 p3]])
    refine TS.draw' (id := 2) (b := true) (ops := c51.s2.s2.s1.rops) (fin := ({ act := (st 33 [(1, .pointer (some ⟨0, 0, none⟩)), (3, .int .i64 r1), (9, .pointer (some ⟨0, 0, none⟩)), (10, .agg ⟨[.int .i64 p0, .int .i64 p1]⟩), (11, .pointer (some ⟨0, 0, none⟩)), (12, .agg ⟨[.int .i64 p0, .int .i64 p1]⟩), (13, .int .i64 r3), (14, .pointer (some ⟨0, 2, none⟩)), (15, .agg ⟨[.int .i64 p2, .int .i64 p3]⟩), (16, .pointer (some ⟨0, 2, none⟩)), (17, .agg ⟨[.int .i64 p2, .int .i64 p3]⟩), (18, .int .i64 r5), (19, .bool true), (20, .bool true), (21, .int .i64 r1), (22, .int .i64 r1), (23, .int .i64 (w64 (0 - r1))), (24, .int .i64 (if (w64 (0 - r1)) > r1 then (w64 (0 - r1)) else r1)), (25, .int .i64 o8), (26, .pointer (some ⟨0, 0, none⟩)), (27, .agg ⟨[.int .i64 p0, .int .i64 p1]⟩), (28, .pointer (some ⟨0, 0, none⟩)), (29, .agg ⟨[.int .i64 p0, .int .i64 p1]⟩), (30, .int .i64 r10)]), heap := [.cells 30 [.int .i64 p0, .int .i64 p1, .int .i64 p2, .int .i64 p3]], own := [], upds := [] } : QSt)) (fin2 := ({ act := (st 33 [(1, .pointer (some ⟨0, 0, none⟩)), (3, .int .i64 r1), (9, .pointer (some ⟨0, 0, none⟩)), (10, .agg ⟨[.int .i64 p0, .int .i64 p1]⟩), (11, .pointer (some ⟨0, 0, none⟩)), (12, .agg ⟨[.int .i64 p0, .int .i64 p1]⟩), (13, .int .i64 r3), (14, .pointer (some ⟨0, 2, none⟩)), (15, .agg ⟨[.int .i64 p2, .int .i64 p3]⟩), (16, .pointer (some ⟨0, 2, none⟩)), (17, .agg ⟨[.int .i64 p2, .int .i64 p3]⟩), (18, .int .i64 r5), (19, .bool true), (20, .bool true), (21, .int .i64 r1), (22, .int .i64 r1), (23, .int .i64 (w64 (0 - r1))), (24, .int .i64 (if (w64 (0 - r1)) > r1 then (w64 (0 - r1)) else r1)), (25, .int .i64 o8), (26, .pointer (some ⟨0, 0, none⟩)), (27, .agg ⟨[.int .i64 p0, .int .i64 p1]⟩), (28, .pointer (some ⟨0, 0, none⟩)), (29, .agg ⟨[.int .i64 p0, .int .i64 p1]⟩), (30, .int .i64 r10)]), heap := [.cells 30 [.int .i64 p0, .int .i64 p1, .int .i64 p2, .int .i64 p3]], own := [], upds := [] } : QSt)) (a1 := (st 33 [(1, .pointer (some ⟨0, 0, none⟩)), (2, .bool (decide (o8 ≤ r10))), (3, .int .i64 r1), (9, .pointer (some ⟨0, 0, none⟩)), (10, .agg ⟨[.int .i64 p0, .int .i64 p1]⟩), (11, .pointer (some ⟨0, 0, none⟩)), (12, .agg ⟨[.int .i64 p0, .int .i64 p1]⟩), (13, .int .i64 r3), (14, .pointer (some ⟨0, 2, none⟩)), (15, .agg ⟨[.int .i64 p2, .int .i64 p3]⟩), (16, .pointer (some ⟨0, 2, none⟩)), (17, .agg ⟨[.int .i64 p2, .int .i64 p3]⟩), (18, .int .i64 r5), (19, .bool true), (20, .bool true), (21, .int .i64 r1), (22, .int .i64 r1), (23, .int .i64 (w64 (0 - r1))), (24, .int .i64 (if (w64 (0 - r1)) > r1 then (w64 (0 - r1)) else r1)), (25, .int .i64 o8), (26, .pointer (some ⟨0, 0, none⟩)), (27, .agg ⟨[.int .i64 p0, .int .i64 p1]⟩), (28, .pointer (some ⟨0, 0, none⟩)), (29, .agg ⟨[.int .i64 p0, .int .i64 p1]⟩), (30, .int .i64 r10), (31, .bool (decide (o8 ≤ r10))), (32, .bool (decide (o8 ≤ r10)))])) (h1 := [.cells 30 [.int .i64 p0, .int .i64 p1, .int .i64 p2, .int .i64 p3]]) (a2 := (st 33 [(2, .bool (decide (o8 ≤ r10)))])) (h2 := [.dead]) [⟨64, [.agg ⟨[.int .i64 p0, .int .i64 p1]⟩, .agg ⟨[.int .i64 p0, .int .i64 p1]⟩], [.cells 30 [.int .i64 p0, .int .i64 p1, .int .i64 p2, .int .i64 p3]], .int .i64 r3, []⟩, ⟨64, [.agg ⟨[.int .i64 p2, .int .i64 p3]⟩, .agg ⟨[.int .i64 p2, .int .i64 p3]⟩], [.cells 30 [.int .i64 p0, .int .i64 p1, .int .i64 p2, .int .i64 p3]], .int .i64 r5, []⟩, ⟨64, [.agg ⟨[.int .i64 p0, .int .i64 p1]⟩, .agg ⟨[.int .i64 p0, .int .i64 p1]⟩], [.cells 30 [.int .i64 p0, .int .i64 p1, .int .i64 p2, .int .i64 p3]], .int .i64 r10, []⟩] hT mixed (by kernel_rfl) rfl 22 (by kernel_rfl) [] ?_ rfl (.inl ⟨rfl, rfl⟩) ?_ [2] [] (by kernel_rfl) ?_
    · refine QI.run (s1 := ({ act := (st 33 [(1, .pointer (some ⟨0, 0, none⟩)), (3, .int .i64 r1), (9, .pointer (some ⟨0, 0, none⟩)), (10, .agg ⟨[.int .i64 p0, .int .i64 p1]⟩), (11, .pointer (some ⟨0, 0, none⟩)), (12, .agg ⟨[.int .i64 p0, .int .i64 p1]⟩)]), heap := [.cells 30 [.int .i64 p0, .int .i64 p1, .int .i64 p2, .int .i64 p3]], own := [], upds := [] } : QSt)) 4 (by kernel_rfl) (by kernel_rfl) ?_
      refine QI.op (q := { val := .int .i64 r3, new := [] }) (s1 := ({ act := (st 33 [(1, .pointer (some ⟨0, 0, none⟩)), (3, .int .i64 r1), (9, .pointer (some ⟨0, 0, none⟩)), (10, .agg ⟨[.int .i64 p0, .int .i64 p1]⟩), (11, .pointer (some ⟨0, 0, none⟩)), (12, .agg ⟨[.int .i64 p0, .int .i64 p1]⟩), (13, .int .i64 r3)]), heap := [.cells 30 [.int .i64 p0, .int .i64 p1, .int .i64 p2, .int .i64 p3]], own := [], upds := [] } : QSt)) (by decide) (qOf_call (g := 64) (args := [.agg ⟨[.int .i64 p0, .int .i64 p1]⟩, .agg ⟨[.int .i64 p0, .int .i64 p1]⟩]) (by kernel_rfl) lookC_hit) (by kernel_rfl) ?_
      refine QI.run (s1 := ({ act := (st 33 [(1, .pointer (some ⟨0, 0, none⟩)), (3, .int .i64 r1), (9, .pointer (some ⟨0, 0, none⟩)), (10, .agg ⟨[.int .i64 p0, .int .i64 p1]⟩), (11, .pointer (some ⟨0, 0, none⟩)), (12, .agg ⟨[.int .i64 p0, .int .i64 p1]⟩), (13, .int .i64 r3), (14, .pointer (some ⟨0, 2, none⟩)), (15, .agg ⟨[.int .i64 p2, .int .i64 p3]⟩), (16, .pointer (some ⟨0, 2, none⟩)), (17, .agg ⟨[.int .i64 p2, .int .i64 p3]⟩)]), heap := [.cells 30 [.int .i64 p0, .int .i64 p1, .int .i64 p2, .int .i64 p3]], own := [], upds := [] } : QSt)) 4 (by kernel_rfl) (by kernel_rfl) ?_
      refine QI.op (q := { val := .int .i64 r5, new := [] }) (s1 := ({ act := (st 33 [(1, .pointer (some ⟨0, 0, none⟩)), (3, .int .i64 r1), (9, .pointer (some ⟨0, 0, none⟩)), (10, .agg ⟨[.int .i64 p0, .int .i64 p1]⟩), (11, .pointer (some ⟨0, 0, none⟩)), (12, .agg ⟨[.int .i64 p0, .int .i64 p1]⟩), (13, .int .i64 r3), (14, .pointer (some ⟨0, 2, none⟩)), (15, .agg ⟨[.int .i64 p2, .int .i64 p3]⟩), (16, .pointer (some ⟨0, 2, none⟩)), (17, .agg ⟨[.int .i64 p2, .int .i64 p3]⟩), (18, .int .i64 r5)]), heap := [.cells 30 [.int .i64 p0, .int .i64 p1, .int .i64 p2, .int .i64 p3]], own := [], upds := [] } : QSt)) (by decide) (qOf_call (g := 64) (args := [.agg ⟨[.int .i64 p2, .int .i64 p3]⟩, .agg ⟨[.int .i64 p2, .int .i64 p3]⟩]) (by kernel_rfl) (lookC_skip (by intro _ ha _; have hq := h4; have hi := h6; clear hF; first | (exfalso; simp at ha; done) | ((try simp at ha); have hr := Option.some.inj (hq.symm.trans (Eq.trans (by first | rfl | (congr 1 <;> first | rfl | omega | simp_all)) hi)); subst hr; rfl)) lookC_hit)) (by kernel_rfl) ?_
      refine QI.op (q := { val := .bool true }) (s1 := ({ act := (st 33 [(1, .pointer (some ⟨0, 0, none⟩)), (3, .int .i64 r1), (9, .pointer (some ⟨0, 0, none⟩)), (10, .agg ⟨[.int .i64 p0, .int .i64 p1]⟩), (11, .pointer (some ⟨0, 0, none⟩)), (12, .agg ⟨[.int .i64 p0, .int .i64 p1]⟩), (13, .int .i64 r3), (14, .pointer (some ⟨0, 2, none⟩)), (15, .agg ⟨[.int .i64 p2, .int .i64 p3]⟩), (16, .pointer (some ⟨0, 2, none⟩)), (17, .agg ⟨[.int .i64 p2, .int .i64 p3]⟩), (18, .int .i64 r5), (19, .bool true)]), heap := [.cells 30 [.int .i64 p0, .int .i64 p1, .int .i64 p2, .int .i64 p3]], own := [], upds := [] } : QSt)) (by decide) (q_conv (e := decide (r3 ≤ r5)) (b := true) (by kernel_rfl) hc7) (by kernel_rfl) ?_
      refine QI.run (s1 := ({ act := (st 33 [(1, .pointer (some ⟨0, 0, none⟩)), (3, .int .i64 r1), (9, .pointer (some ⟨0, 0, none⟩)), (10, .agg ⟨[.int .i64 p0, .int .i64 p1]⟩), (11, .pointer (some ⟨0, 0, none⟩)), (12, .agg ⟨[.int .i64 p0, .int .i64 p1]⟩), (13, .int .i64 r3), (14, .pointer (some ⟨0, 2, none⟩)), (15, .agg ⟨[.int .i64 p2, .int .i64 p3]⟩), (16, .pointer (some ⟨0, 2, none⟩)), (17, .agg ⟨[.int .i64 p2, .int .i64 p3]⟩), (18, .int .i64 r5), (19, .bool true), (20, .bool true), (21, .int .i64 r1), (22, .int .i64 r1), (23, .int .i64 (w64 (0 - r1))), (24, .int .i64 (if (w64 (0 - r1)) > r1 then (w64 (0 - r1)) else r1))]), heap := [.cells 30 [.int .i64 p0, .int .i64 p1, .int .i64 p2, .int .i64 p3]], own := [], upds := [] } : QSt)) 5 (by kernel_rfl) (by kernel_rfl) ?_
      refine QI.op (q := { val := .int .i64 o8 }) (s1 := ({ act := (st 33 [(1, .pointer (some ⟨0, 0, none⟩)), (3, .int .i64 r1), (9, .pointer (some ⟨0, 0, none⟩)), (10, .agg ⟨[.int .i64 p0, .int .i64 p1]⟩), (11, .pointer (some ⟨0, 0, none⟩)), (12, .agg ⟨[.int .i64 p0, .int .i64 p1]⟩), (13, .int .i64 r3), (14, .pointer (some ⟨0, 2, none⟩)), (15, .agg ⟨[.int .i64 p2, .int .i64 p3]⟩), (16, .pointer (some ⟨0, 2, none⟩)), (17, .agg ⟨[.int .i64 p2, .int .i64 p3]⟩), (18, .int .i64 r5), (19, .bool true), (20, .bool true), (21, .int .i64 r1), (22, .int .i64 r1), (23, .int .i64 (w64 (0 - r1))), (24, .int .i64 (if (w64 (0 - r1)) > r1 then (w64 (0 - r1)) else r1)), (25, .int .i64 o8)]), heap := [.cells 30 [.int .i64 p0, .int .i64 p1, .int .i64 p2, .int .i64 p3]], own := [], upds := [] } : QSt)) (by decide) (q_convI (e := w64 (2 * (if (w64 (0 - r1)) > r1 then (w64 (0 - r1)) else r1))) (y := o8) (by kernel_rfl) h9) (by kernel_rfl) ?_
      refine QI.run (s1 := ({ act := (st 33 [(1, .pointer (some ⟨0, 0, none⟩)), (3, .int .i64 r1), (9, .pointer (some ⟨0, 0, none⟩)), (10, .agg ⟨[.int .i64 p0, .int .i64 p1]⟩), (11, .pointer (some ⟨0, 0, none⟩)), (12, .agg ⟨[.int .i64 p0, .int .i64 p1]⟩), (13, .int .i64 r3), (14, .pointer (some ⟨0, 2, none⟩)), (15, .agg ⟨[.int .i64 p2, .int .i64 p3]⟩), (16, .pointer (some ⟨0, 2, none⟩)), (17, .agg ⟨[.int .i64 p2, .int .i64 p3]⟩), (18, .int .i64 r5), (19, .bool true), (20, .bool true), (21, .int .i64 r1), (22, .int .i64 r1), (23, .int .i64 (w64 (0 - r1))), (24, .int .i64 (if (w64 (0 - r1)) > r1 then (w64 (0 - r1)) else r1)), (25, .int .i64 o8), (26, .pointer (some ⟨0, 0, none⟩)), (27, .agg ⟨[.int .i64 p0, .int .i64 p1]⟩), (28, .pointer (some ⟨0, 0, none⟩)), (29, .agg ⟨[.int .i64 p0, .int .i64 p1]⟩)]), heap := [.cells 30 [.int .i64 p0, .int .i64 p1, .int .i64 p2, .int .i64 p3]], own := [], upds := [] } : QSt)) 4 (by kernel_rfl) (by kernel_rfl) ?_
      refine QI.op (q := { val := .int .i64 r10, new := [] }) (s1 := ({ act := (st 33 [(1, .pointer (some ⟨0, 0, none⟩)), (3, .int .i64 r1), (9, .pointer (some ⟨0, 0, none⟩)), (10, .agg ⟨[.int .i64 p0, .int .i64 p1]⟩), (11, .pointer (some ⟨0, 0, none⟩)), (12, .agg ⟨[.int .i64 p0, .int .i64 p1]⟩), (13, .int .i64 r3), (14, .pointer (some ⟨0, 2, none⟩)), (15, .agg ⟨[.int .i64 p2, .int .i64 p3]⟩), (16, .pointer (some ⟨0, 2, none⟩)), (17, .agg ⟨[.int .i64 p2, .int .i64 p3]⟩), (18, .int .i64 r5), (19, .bool true), (20, .bool true), (21, .int .i64 r1), (22, .int .i64 r1), (23, .int .i64 (w64 (0 - r1))), (24, .int .i64 (if (w64 (0 - r1)) > r1 then (w64 (0 - r1)) else r1)), (25, .int .i64 o8), (26, .pointer (some ⟨0, 0, none⟩)), (27, .agg ⟨[.int .i64 p0, .int .i64 p1]⟩), (28, .pointer (some ⟨0, 0, none⟩)), (29, .agg ⟨[.int .i64 p0, .int .i64 p1]⟩), (30, .int .i64 r10)]), heap := [.cells 30 [.int .i64 p0, .int .i64 p1, .int .i64 p2, .int .i64 p3]], own := [], upds := [] } : QSt)) (by decide) (qOf_call (g := 64) (args := [.agg ⟨[.int .i64 p0, .int .i64 p1]⟩, .agg ⟨[.int .i64 p0, .int .i64 p1]⟩]) (by kernel_rfl) (lookC_skip (by intro _ ha _; have hq := h4; have hi := h11; clear hF; first | (exfalso; simp at ha; done) | ((try simp at ha); have hr := Option.some.inj (hq.symm.trans (Eq.trans (by first | rfl | (congr 1 <;> first | rfl | omega | simp_all)) hi)); subst hr; rfl)) (lookC_skip (by intro _ ha _; have hq := h6; have hi := h11; clear hF; first | (exfalso; simp at ha; done) | ((try simp at ha); have hr := Option.some.inj (hq.symm.trans (Eq.trans (by first | rfl | (congr 1 <;> first | rfl | omega | simp_all)) hi)); subst hr; rfl)) lookC_hit))) (by kernel_rfl) ?_
      exact QI.done (by kernel_rfl)
    · refine SI.run (a2 := (st 33 [(1, .pointer (some ⟨0, 0, none⟩)), (2, .bool (decide (o8 ≤ r10))), (3, .int .i64 r1), (9, .pointer (some ⟨0, 0, none⟩)), (10, .agg ⟨[.int .i64 p0, .int .i64 p1]⟩), (11, .pointer (some ⟨0, 0, none⟩)), (12, .agg ⟨[.int .i64 p0, .int .i64 p1]⟩), (13, .int .i64 r3), (14, .pointer (some ⟨0, 2, none⟩)), (15, .agg ⟨[.int .i64 p2, .int .i64 p3]⟩), (16, .pointer (some ⟨0, 2, none⟩)), (17, .agg ⟨[.int .i64 p2, .int .i64 p3]⟩), (18, .int .i64 r5), (19, .bool true), (20, .bool true), (21, .int .i64 r1), (22, .int .i64 r1), (23, .int .i64 (w64 (0 - r1))), (24, .int .i64 (if (w64 (0 - r1)) > r1 then (w64 (0 - r1)) else r1)), (25, .int .i64 o8), (26, .pointer (some ⟨0, 0, none⟩)), (27, .agg ⟨[.int .i64 p0, .int .i64 p1]⟩), (28, .pointer (some ⟨0, 0, none⟩)), (29, .agg ⟨[.int .i64 p0, .int .i64 p1]⟩), (30, .int .i64 r10), (31, .bool (decide (o8 ≤ r10))), (32, .bool (decide (o8 ≤ r10)))])) (h2 := [.cells 30 [.int .i64 p0, .int .i64 p1, .int .i64 p2, .int .i64 p3]]) 3 (by kernel_rfl) ?_
      exact SI.done (by kernel_rfl)
    exact hK
  · replace hm13 := of_neg hm13 hc7
    have hm13 := Option.some.inj hm13
    subst hm13
    have hT : ∀ e ∈ ([⟨64, [.agg ⟨[.int .i64 p0, .int .i64 p1]⟩, .agg ⟨[.int .i64 p0, .int .i64 p1]⟩], [.cells 30 [.int .i64 p0, .int .i64 p1, .int .i64 p2, .int .i64 p3]], .int .i64 r3, []⟩, ⟨64, [.agg ⟨[.int .i64 p2, .int .i64 p3]⟩, .agg ⟨[.int .i64 p2, .int .i64 p3]⟩], [.cells 30 [.int .i64 p0, .int .i64 p1, .int .i64 p2, .int .i64 p3]], .int .i64 r5, []⟩] : List Entry), PureSim Try.prog e.g e.args e.h e.v e.new := by
      intro e he
      simp only [List.mem_cons, List.not_mem_nil, or_false] at he
      rcases he with rfl | rfl
      · exact (PureSim.any (C64 p0 p1 p0 p1 r3 h4) (flatL (by kernel_rfl)) (by kernel_rfl) [.cells 30 [.int .i64 p0, .int .i64 p1, .int .i64 p2, .int .i64 p3]])
      · exact (PureSim.any (C64 p2 p3 p2 p3 r5 h6) (flatL (by kernel_rfl)) (by kernel_rfl) [.cells 30 [.int .i64 p0, .int .i64 p1, .int .i64 p2, .int .i64 p3]])
    refine TS.draw' (id := 2) (b := true) (ops := c51.s2.s2.s1.rops) (fin := ({ act := (st 33 [(1, .pointer (some ⟨0, 0, none⟩)), (3, .int .i64 r1), (9, .pointer (some ⟨0, 0, none⟩)), (10, .agg ⟨[.int .i64 p0, .int .i64 p1]⟩), (11, .pointer (some ⟨0, 0, none⟩)), (12, .agg ⟨[.int .i64 p0, .int .i64 p1]⟩), (13, .int .i64 r3), (14, .pointer (some ⟨0, 2, none⟩)), (15, .agg ⟨[.int .i64 p2, .int .i64 p3]⟩), (16, .pointer (some ⟨0, 2, none⟩)), (17, .agg ⟨[.int .i64 p2, .int .i64 p3]⟩), (18, .int .i64 r5), (19, .bool false), (20, .bool false), (21, undef), (22, undef), (23, undef), (24, undef), (25, undef), (26, undef), (27, undef), (28, undef), (29, undef), (30, undef)]), heap := [.cells 30 [.int .i64 p0, .int .i64 p1, .int .i64 p2, .int .i64 p3]], own := [], upds := [] } : QSt)) (fin2 := ({ act := (st 33 [(1, .pointer (some ⟨0, 0, none⟩)), (3, .int .i64 r1), (9, .pointer (some ⟨0, 0, none⟩)), (10, .agg ⟨[.int .i64 p0, .int .i64 p1]⟩), (11, .pointer (some ⟨0, 0, none⟩)), (12, .agg ⟨[.int .i64 p0, .int .i64 p1]⟩), (13, .int .i64 r3), (14, .pointer (some ⟨0, 2, none⟩)), (15, .agg ⟨[.int .i64 p2, .int .i64 p3]⟩), (16, .pointer (some ⟨0, 2, none⟩)), (17, .agg ⟨[.int .i64 p2, .int .i64 p3]⟩), (18, .int .i64 r5), (19, .bool false), (20, .bool false), (21, undef), (22, undef), (23, undef), (24, undef), (25, undef), (26, undef), (27, undef), (28, undef), (29, undef), (30, undef)]), heap := [.cells 30 [.int .i64 p0, .int .i64 p1, .int .i64 p2, .int .i64 p3]], own := [], upds := [] } : QSt)) (a1 := (st 33 [(1, .pointer (some ⟨0, 0, none⟩)), (2, .bool false), (3, .int .i64 r1), (9, .pointer (some ⟨0, 0, none⟩)), (10, .agg ⟨[.int .i64 p0, .int .i64 p1]⟩), (11, .pointer (some ⟨0, 0, none⟩)), (12, .agg ⟨[.int .i64 p0, .int .i64 p1]⟩), (13, .int .i64 r3), (14, .pointer (some ⟨0, 2, none⟩)), (15, .agg ⟨[.int .i64 p2, .int .i64 p3]⟩), (16, .pointer (some ⟨0, 2, none⟩)), (17, .agg ⟨[.int .i64 p2, .int .i64 p3]⟩), (18, .int .i64 r5), (19, .bool false), (20, .bool false), (21, undef), (22, undef), (23, undef), (24, undef), (25, undef), (26, undef), (27, undef), (28, undef), (29, undef), (30, undef), (31, undef), (32, .bool false)])) (h1 := [.cells 30 [.int .i64 p0, .int .i64 p1, .int .i64 p2, .int .i64 p3]]) (a2 := (st 33 [(2, .bool false)])) (h2 := [.dead]) [⟨64, [.agg ⟨[.int .i64 p0, .int .i64 p1]⟩, .agg ⟨[.int .i64 p0, .int .i64 p1]⟩], [.cells 30 [.int .i64 p0, .int .i64 p1, .int .i64 p2, .int .i64 p3]], .int .i64 r3, []⟩, ⟨64, [.agg ⟨[.int .i64 p2, .int .i64 p3]⟩, .agg ⟨[.int .i64 p2, .int .i64 p3]⟩], [.cells 30 [.int .i64 p0, .int .i64 p1, .int .i64 p2, .int .i64 p3]], .int .i64 r5, []⟩] hT mixed (by kernel_rfl) rfl 22 (by kernel_rfl) [] ?_ rfl (.inl ⟨rfl, rfl⟩) ?_ [2] [] (by kernel_rfl) ?_
    · refine QI.run (s1 := ({ act := (st 33 [(1, .pointer (some ⟨0, 0, none⟩)), (3, .int .i64 r1), (9, .pointer (some ⟨0, 0, none⟩)), (10, .agg ⟨[.int .i64 p0, .int .i64 p1]⟩), (11, .pointer (some ⟨0, 0, none⟩)), (12, .agg ⟨[.int .i64 p0, .int .i64 p1]⟩)]), heap := [.cells 30 [.int .i64 p0, .int .i64 p1, .int .i64 p2, .int .i64 p3]], own := [], upds := [] } : QSt)) 4 (by kernel_rfl) (by kernel_rfl) ?_
      refine QI.op (q := { val := .int .i64 r3, new := [] }) (s1 := ({ act := (st 33 [(1, .pointer (some ⟨0, 0, none⟩)), (3, .int .i64 r1), (9, .pointer (some ⟨0, 0, none⟩)), (10, .agg ⟨[.int .i64 p0, .int .i64 p1]⟩), (11, .pointer (some ⟨0, 0, none⟩)), (12, .agg ⟨[.int .i64 p0, .int .i64 p1]⟩), (13, .int .i64 r3)]), heap := [.cells 30 [.int .i64 p0, .int .i64 p1, .int .i64 p2, .int .i64 p3]], own := [], upds := [] } : QSt)) (by decide) (qOf_call (g := 64) (args := [.agg ⟨[.int .i64 p0, .int .i64 p1]⟩, .agg ⟨[.int .i64 p0, .int .i64 p1]⟩]) (by kernel_rfl) lookC_hit) (by kernel_rfl) ?_
      refine QI.run (s1 := ({ act := (st 33 [(1, .pointer (some ⟨0, 0, none⟩)), (3, .int .i64 r1), (9, .pointer (some ⟨0, 0, none⟩)), (10, .agg ⟨[.int .i64 p0, .int .i64 p1]⟩), (11, .pointer (some ⟨0, 0, none⟩)), (12, .agg ⟨[.int .i64 p0, .int .i64 p1]⟩), (13, .int .i64 r3), (14, .pointer (some ⟨0, 2, none⟩)), (15, .agg ⟨[.int .i64 p2, .int .i64 p3]⟩), (16, .pointer (some ⟨0, 2, none⟩)), (17, .agg ⟨[.int .i64 p2, .int .i64 p3]⟩)]), heap := [.cells 30 [.int .i64 p0, .int .i64 p1, .int .i64 p2, .int .i64 p3]], own := [], upds := [] } : QSt)) 4 (by kernel_rfl) (by kernel_rfl) ?_
      refine QI.op (q := { val := .int .i64 r5, new := [] }) (s1 := ({ act := (st 33 [(1, .pointer (some ⟨0, 0, none⟩)), (3, .int .i64 r1), (9, .pointer (some ⟨0, 0, none⟩)), (10, .agg ⟨[.int .i64 p0, .int .i64 p1]⟩), (11, .pointer (some ⟨0, 0, none⟩)), (12, .agg ⟨[.int .i64 p0, .int .i64 p1]⟩), (13, .int .i64 r3), (14, .pointer (some ⟨0, 2, none⟩)), (15, .agg ⟨[.int .i64 p2, .int .i64 p3]⟩), (16, .pointer (some ⟨0, 2, none⟩)), (17, .agg ⟨[.int .i64 p2, .int .i64 p3]⟩), (18, .int .i64 r5)]), heap := [.cells 30 [.int .i64 p0, .int .i64 p1, .int .i64 p2, .int .i64 p3]], own := [], upds := [] } : QSt)) (by decide) (qOf_call (g := 64) (args := [.agg ⟨[.int .i64 p2, .int .i64 p3]⟩, .agg ⟨[.int .i64 p2, .int .i64 p3]⟩]) (by kernel_rfl) (lookC_skip (by intro _ ha _; have hq := h4; have hi := h6; clear hF; first | (exfalso; simp at ha; done) | ((try simp at ha); have hr := Option.some.inj (hq.symm.trans (Eq.trans (by first | rfl | (congr 1 <;> first | rfl | omega | simp_all)) hi)); subst hr; rfl)) lookC_hit)) (by kernel_rfl) ?_
      refine QI.op (q := { val := .bool false }) (s1 := ({ act := (st 33 [(1, .pointer (some ⟨0, 0, none⟩)), (3, .int .i64 r1), (9, .pointer (some ⟨0, 0, none⟩)), (10, .agg ⟨[.int .i64 p0, .int .i64 p1]⟩), (11, .pointer (some ⟨0, 0, none⟩)), (12, .agg ⟨[.int .i64 p0, .int .i64 p1]⟩), (13, .int .i64 r3), (14, .pointer (some ⟨0, 2, none⟩)), (15, .agg ⟨[.int .i64 p2, .int .i64 p3]⟩), (16, .pointer (some ⟨0, 2, none⟩)), (17, .agg ⟨[.int .i64 p2, .int .i64 p3]⟩), (18, .int .i64 r5), (19, .bool false)]), heap := [.cells 30 [.int .i64 p0, .int .i64 p1, .int .i64 p2, .int .i64 p3]], own := [], upds := [] } : QSt)) (by decide) (q_conv (e := decide (r3 ≤ r5)) (b := false) (by kernel_rfl) hc7) (by kernel_rfl) ?_
      refine QI.run (s1 := ({ act := (st 33 [(1, .pointer (some ⟨0, 0, none⟩)), (3, .int .i64 r1), (9, .pointer (some ⟨0, 0, none⟩)), (10, .agg ⟨[.int .i64 p0, .int .i64 p1]⟩), (11, .pointer (some ⟨0, 0, none⟩)), (12, .agg ⟨[.int .i64 p0, .int .i64 p1]⟩), (13, .int .i64 r3), (14, .pointer (some ⟨0, 2, none⟩)), (15, .agg ⟨[.int .i64 p2, .int .i64 p3]⟩), (16, .pointer (some ⟨0, 2, none⟩)), (17, .agg ⟨[.int .i64 p2, .int .i64 p3]⟩), (18, .int .i64 r5), (19, .bool false), (20, .bool false), (21, undef), (22, undef), (23, undef), (24, undef), (25, undef), (26, undef), (27, undef), (28, undef), (29, undef), (30, undef)]), heap := [.cells 30 [.int .i64 p0, .int .i64 p1, .int .i64 p2, .int .i64 p3]], own := [], upds := [] } : QSt)) 11 (by kernel_rfl) (by kernel_rfl) ?_
      exact QI.done (by kernel_rfl)
    · refine SI.run (a2 := (st 33 [(1, .pointer (some ⟨0, 0, none⟩)), (2, .bool false), (3, .int .i64 r1), (9, .pointer (some ⟨0, 0, none⟩)), (10, .agg ⟨[.int .i64 p0, .int .i64 p1]⟩), (11, .pointer (some ⟨0, 0, none⟩)), (12, .agg ⟨[.int .i64 p0, .int .i64 p1]⟩), (13, .int .i64 r3), (14, .pointer (some ⟨0, 2, none⟩)), (15, .agg ⟨[.int .i64 p2, .int .i64 p3]⟩), (16, .pointer (some ⟨0, 2, none⟩)), (17, .agg ⟨[.int .i64 p2, .int .i64 p3]⟩), (18, .int .i64 r5), (19, .bool false), (20, .bool false), (21, undef), (22, undef), (23, undef), (24, undef), (25, undef), (26, undef), (27, undef), (28, undef), (29, undef), (30, undef), (31, undef), (32, .bool false)])) (h2 := [.cells 30 [.int .i64 p0, .int .i64 p1, .int .i64 p2, .int .i64 p3]]) 3 (by kernel_rfl) ?_
      exact SI.done (by kernel_rfl)
    exact hK
theorem C51 (p0 : Int) (p1 : Int) (p2 : Int) (p3 : Int) (r : Bool) (hF : F51 p0 p1 p2 p3 = some r) : PureSim Try.prog 51 [.agg ⟨[.int .i64 p0, .int .i64 p1, .int .i64 p2, .int .i64 p3]⟩] [] (V51 0 r) (N51 0 r) :=
  PureSim.of_Fin Try.func51 (c := c51) (by kernel_rfl) (by kernel_rfl) 0 rfl [0] [] (by kernel_rfl) (B51 p0 p1 p2 p3 r hF)

-- agonic/agonicref06.Reduced
noncomputable def c15 : Code := Try.f15.code
def F15 (p0 : Int) (p1 : Int) (p2 : Int) (p3 : Int) : Option (Bool × Int) :=
  F21 p0 p1 p2 p3 >>= fun r1 =>
  if r1 != 0 then
    some (false, r1)
  else
    F51 p0 p1 p2 p3 >>= fun r4 =>
    some (r4, 0)
def V15 (b : Nat) (r : (Bool × Int)) : Value := .tuple ⟨[.bool r.1, .int .i64 r.2]⟩
def N15 (b : Nat) (r : (Bool × Int)) : List Blk := []
theorem B15 (p0 : Int) (p1 : Int) (p2 : Int) (p3 : Int) (r : (Bool × Int)) (hF : F15 p0 p1 p2 p3 = some r) : TS Try.prog 0 0 c15 (st 12 [(0, .agg ⟨[.int .i64 p0, .int .i64 p1, .int .i64 p2, .int .i64 p3]⟩)]) [] (NX Try.prog 0 0 [] (FinP Try.prog Try.f15 0 (V15 0 r) (N15 0 r))) := by
  unfold F15 at hF
  refine TS.seq' (x := c15.s1) (y := c15.s2) (by kernel_rfl) ?_
  refine TS.region' (id := 0) (b := false) (ops := c15.s1.rops) (by kernel_rfl) rfl ?_
  refine TI.run 3 [1] [0] (a2 := (st 12 [(1, .pointer (some ⟨0, 0, none⟩))])) (h2 := [.cells 30 [.int .i64 p0, .int .i64 p1, .int .i64 p2, .int .i64 p3]]) (by kernel_rfl) ?_
  refine TI.done (by kernel_rfl) ?_
  refine NX.sq ?_
  refine TS.seq' (x := c15.s2.s1) (y := c15.s2.s2) (by kernel_rfl) ?_
  have hX := of_do hF
  clear hF
  obtain ⟨r1, h2, hF⟩ := hX
  refine TS.region' (id := 1) (b := false) (ops := c15.s2.s1.rops) (by kernel_rfl) rfl ?_
  refine TI.run 1 [1, 5] [0] (a2 := (st 12 [(1, .pointer (some ⟨0, 0, none⟩)), (5, .agg ⟨[.int .i64 p0, .int .i64 p1, .int .i64 p2, .int .i64 p3]⟩)])) (h2 := [.cells 30 [.int .i64 p0, .int .i64 p1, .int .i64 p2, .int .i64 p3]]) (by kernel_rfl) ?_
  refine TI.callM (g := 21) (args := [.agg ⟨[.int .i64 p0, .int .i64 p1, .int .i64 p2, .int .i64 p3]⟩]) (v := .int .i64 r1) (new := []) (by kernel_rfl) (PureSim.any (C21 p0 p1 p2 p3 r1 h2) (flatL (by kernel_rfl)) (by kernel_rfl) [.cells 30 [.int .i64 p0, .int .i64 p1, .int .i64 p2, .int .i64 p3]]) [1, 6] [0] (a2 := (st 12 [(1, .pointer (some ⟨0, 0, none⟩)), (6, .int .i64 r1)])) (h2 := [.cells 30 [.int .i64 p0, .int .i64 p1, .int .i64 p2, .int .i64 p3]]) (by kernel_rfl) ?_
  refine TI.run 1 [1, 4] [0] (a2 := (st 12 [(1, .pointer (some ⟨0, 0, none⟩)), (4, .int .i64 r1)])) (h2 := [.cells 30 [.int .i64 p0, .int .i64 p1, .int .i64 p2, .int .i64 p3]]) (by kernel_rfl) ?_
  refine TI.done (by kernel_rfl) ?_
  refine NX.sq ?_
  refine TS.seq' (x := c15.s2.s2.s1) (y := c15.s2.s2.s2) (by kernel_rfl) ?_
  refine TS.seq' (x := c15.s2.s2.s1.s1) (y := c15.s2.s2.s1.s2) (by kernel_rfl) ?_
  refine TS.region' (id := 2) (b := false) (ops := c15.s2.s2.s1.s1.rops) (by kernel_rfl) rfl ?_
  refine TI.run 2 [1, 4, 8] [0] (a2 := (st 12 [(1, .pointer (some ⟨0, 0, none⟩)), (4, .int .i64 r1), (8, .bool (r1 != 0))])) (h2 := [.cells 30 [.int .i64 p0, .int .i64 p1, .int .i64 p2, .int .i64 p3]]) (by kernel_rfl) ?_
  refine TI.done (by kernel_rfl) ?_
  refine NX.sq ?_
  refine TS.cond' (o := (.tmp 8)) (x := c15.s2.s2.s1.s2.th) (y := c15.s2.s2.s1.s2.el) (b := r1 != 0) (by kernel_rfl) (by kernel_rfl) (fun hc3 => ?_) (fun hc3 => ?_)
  · replace hF := of_pos hF hc3
    refine TS.seq' (x := c15.s2.s2.s1.s2.th.s1) (y := c15.s2.s2.s1.s2.th.s2) (by kernel_rfl) ?_
    refine TS.region' (id := 3) (b := false) (ops := c15.s2.s2.s1.s2.th.s1.rops) (by kernel_rfl) rfl ?_
    refine TI.run 3 [2, 3] [] (a2 := (st 12 [(2, .bool false), (3, .int .i64 r1)])) (h2 := [.dead]) (by kernel_rfl) ?_
    refine TI.done (by kernel_rfl) ?_
    refine NX.sq ?_
    refine TS.ret' (by kernel_rfl) ?_
    refine NX.sqR ?_
    have hF := Option.some.inj hF
    subst hF
    exact ⟨.inr rfl, rfl, .tuple ⟨[.bool false, .int .i64 r1]⟩, by kernel_rfl, WkV.flat0 (by kernel_rfl) (Nat.le_of_ble_eq_true rfl)⟩
  · replace hF := of_neg hF hc3
    refine TS.skip' (by kernel_rfl) ?_
    refine NX.sq ?_
    refine TS.seq' (x := c15.s2.s2.s2.s1) (y := c15.s2.s2.s2.s2) (by kernel_rfl) ?_
    have hX := of_do hF
    clear hF
    obtain ⟨r4, h5, hF⟩ := hX
    refine TS.region' (id := 4) (b := false) (ops := c15.s2.s2.s2.s1.rops) (by kernel_rfl) rfl ?_
    refine TI.run 1 [10] [] (a2 := (st 12 [(10, .agg ⟨[.int .i64 p0, .int .i64 p1, .int .i64 p2, .int .i64 p3]⟩)])) (h2 := [.dead]) (by kernel_rfl) ?_
    refine TI.callM (g := 51) (args := [.agg ⟨[.int .i64 p0, .int .i64 p1, .int .i64 p2, .int .i64 p3]⟩]) (v := .bool r4) (new := []) (by kernel_rfl) (PureSim.any (C51 p0 p1 p2 p3 r4 h5) (flatL (by kernel_rfl)) (by kernel_rfl) [.dead]) [11] [] (a2 := (st 12 [(11, .bool r4)])) (h2 := [.dead]) (by kernel_rfl) ?_
    refine TI.run 2 [2, 3] [] (a2 := (st 12 [(2, .bool r4), (3, .int .i64 0)])) (h2 := [.dead]) (by kernel_rfl) ?_
    refine TI.done (by kernel_rfl) ?_
    refine NX.sq ?_
    refine TS.ret' (by kernel_rfl) ?_
    have hF := Option.some.inj hF
    subst hF
    exact ⟨.inr rfl, rfl, .tuple ⟨[.bool r4, .int .i64 0]⟩, by kernel_rfl, WkV.flat0 (by kernel_rfl) (Nat.le_of_ble_eq_true rfl)⟩
theorem C15 (p0 : Int) (p1 : Int) (p2 : Int) (p3 : Int) (r : (Bool × Int)) (hF : F15 p0 p1 p2 p3 = some r) : PureSim Try.prog 15 [.agg ⟨[.int .i64 p0, .int .i64 p1, .int .i64 p2, .int .i64 p3]⟩] [] (V15 0 r) (N15 0 r) :=
  PureSim.of_Fin Try.func15 (c := c15) (by kernel_rfl) (by kernel_rfl) 0 rfl [0] [] (by kernel_rfl) (B15 p0 p1 p2 p3 r hF)

-- (agonic/magnet.Choice).small
noncomputable def c77 : Code := Try.f77.code
def F77 (p0 : Int) (p1 : Int) : Option Bool :=
  F68 (-100000000) p0 100000000 >>= fun r1 =>
  (
    if r1 then
      F68 (-100000000) p1 100000000 >>= fun r3 =>
      some (r3)
    else
      some (false)
  : Option Bool) >>= fun m5 =>
  some m5
def V77 (b : Nat) (r : Bool) : Value := .bool r
def N77 (b : Nat) (r : Bool) : List Blk := []
theorem B77 (p0 : Int) (p1 : Int) (r : Bool) (hF : F77 p0 p1 = some r) : TS Try.prog 0 0 c77 (st 11 [(0, .agg ⟨[.int .i64 p0, .int .i64 p1]⟩)]) [] (NX Try.prog 0 0 [] (FinP Try.prog Try.f77 0 (V77 0 r) (N77 0 r))) := by
  unfold F77 at hF
  refine TS.seq' (x := c77.s1) (y := c77.s2) (by kernel_rfl) ?_
  refine TS.region' (id := 0) (b := false) (ops := c77.s1.rops) (by kernel_rfl) rfl ?_
  refine TI.run 2 [1] [0] (a2 := (st 11 [(1, .pointer (some ⟨0, 0, none⟩))])) (h2 := [.cells 27 [.int .i64 p0, .int .i64 p1]]) (by kernel_rfl) ?_
  refine TI.done (by kernel_rfl) ?_
  refine NX.sq ?_
  refine TS.seq' (x := c77.s2.s1) (y := c77.s2.s2) (by kernel_rfl) ?_
  have hX := of_do hF
  clear hF
  obtain ⟨r1, h2, hF⟩ := hX
  have hX := of_do hF
  clear hF
  obtain ⟨m5, hm6, hF⟩ := hX
  have hK : NX Try.prog 0 0 [.sq c77.s2.s2] (FinP Try.prog Try.f77 0 (V77 0 r) (N77 0 r)) .normal (st 11 [(2, .bool m5)]) [.dead] := by
    refine NX.sq ?_
    refine TS.ret' (by kernel_rfl) ?_
    have hF := Option.some.inj hF
    subst hF
    exact ⟨.inr rfl, rfl, .bool m5, by kernel_rfl, WkV.flat0 (by kernel_rfl) (Nat.le_of_ble_eq_true rfl)⟩
  cases r1 with
  | true =>
    replace hm6 := of_pos hm6 rfl
    have hX := of_do hm6
    clear hm6
    obtain ⟨r3, h4, hm6⟩ := hX
    have hm6 := Option.some.inj hm6
    subst hm6
    refine TS.region' (id := 1) (b := false) (ops := c77.s2.s1.rops) (by kernel_rfl) rfl ?_
    refine TI.run 2 [1, 4] [0] (a2 := (st 11 [(1, .pointer (some ⟨0, 0, none⟩)), (4, .int .i64 p0)])) (h2 := [.cells 27 [.int .i64 p0, .int .i64 p1]]) (by kernel_rfl) ?_
    refine TI.callM (g := 68) (args := [.int .i64 (-100000000), .int .i64 p0, .int .i64 100000000]) (v := .bool true) (new := []) (by kernel_rfl) (PureSim.any (C68 (-100000000) p0 100000000 true h2) (flatL (by kernel_rfl)) (by kernel_rfl) [.cells 27 [.int .i64 p0, .int .i64 p1]]) [1, 5] [0] (a2 := (st 11 [(1, .pointer (some ⟨0, 0, none⟩)), (5, .bool true)])) (h2 := [.cells 27 [.int .i64 p0, .int .i64 p1]]) (by kernel_rfl) ?_
    refine TI.run 3 [6, 8] [] (a2 := (st 11 [(6, .bool true), (8, .int .i64 p1)])) (h2 := [.dead]) (by kernel_rfl) ?_
    refine TI.callM (g := 68) (args := [.int .i64 (-100000000), .int .i64 p1, .int .i64 100000000]) (v := .bool r3) (new := []) (by kernel_rfl) (PureSim.any (C68 (-100000000) p1 100000000 r3 h4) (flatL (by kernel_rfl)) (by kernel_rfl) [.dead]) [6, 9] [] (a2 := (st 11 [(6, .bool true), (9, .bool r3)])) (h2 := [.dead]) (by kernel_rfl) ?_
    refine TI.run 2 [2] [] (a2 := (st 11 [(2, .bool r3)])) (h2 := [.dead]) (by kernel_rfl) ?_
    refine TI.done (by kernel_rfl) ?_
    exact hK
  | false =>
    replace hm6 := of_neg hm6 rfl
    have hm6 := Option.some.inj hm6
    subst hm6
    refine TS.region' (id := 1) (b := false) (ops := c77.s2.s1.rops) (by kernel_rfl) rfl ?_
    refine TI.run 2 [1, 4] [0] (a2 := (st 11 [(1, .pointer (some ⟨0, 0, none⟩)), (4, .int .i64 p0)])) (h2 := [.cells 27 [.int .i64 p0, .int .i64 p1]]) (by kernel_rfl) ?_
    refine TI.callM (g := 68) (args := [.int .i64 (-100000000), .int .i64 p0, .int .i64 100000000]) (v := .bool false) (new := []) (by kernel_rfl) (PureSim.any (C68 (-100000000) p0 100000000 false h2) (flatL (by kernel_rfl)) (by kernel_rfl) [.cells 27 [.int .i64 p0, .int .i64 p1]]) [1, 5] [0] (a2 := (st 11 [(1, .pointer (some ⟨0, 0, none⟩)), (5, .bool false)])) (h2 := [.cells 27 [.int .i64 p0, .int .i64 p1]]) (by kernel_rfl) ?_
    refine TI.run 6 [2] [] (a2 := (st 11 [(2, .bool false)])) (h2 := [.dead]) (by kernel_rfl) ?_
    refine TI.done (by kernel_rfl) ?_
    exact hK
theorem C77 (p0 : Int) (p1 : Int) (r : Bool) (hF : F77 p0 p1 = some r) : PureSim Try.prog 77 [.agg ⟨[.int .i64 p0, .int .i64 p1]⟩] [] (V77 0 r) (N77 0 r) :=
  PureSim.of_Fin Try.func77 (c := c77) (by kernel_rfl) (by kernel_rfl) 0 rfl [0] [] (by kernel_rfl) (B77 p0 p1 r hF)

-- (agonic/magnet.Kit).check$1
noncomputable def c76 : Code := Try.f76.code
def F76 (p0 : Int) (p1 : Int) : Option Bool :=
  F77 p0 p1 >>= fun r1 =>
  (
    if r1 then
      some (false)
    else
      some (true)
  : Option Bool) >>= fun m3 =>
  some m3
def V76 (b : Nat) (r : Bool) : Value := .bool r
def N76 (b : Nat) (r : Bool) : List Blk := []
theorem B76 (p0 : Int) (p1 : Int) (r : Bool) (hF : F76 p0 p1 = some r) : TS Try.prog 0 0 c76 (st 6 [(0, .agg ⟨[.int .i64 p0, .int .i64 p1]⟩)]) [] (NX Try.prog 0 0 [] (FinP Try.prog Try.f76 0 (V76 0 r) (N76 0 r))) := by
  unfold F76 at hF
  refine TS.seq' (x := c76.s1) (y := c76.s2) (by kernel_rfl) ?_
  refine TS.region' (id := 0) (b := false) (ops := c76.s1.rops) (by kernel_rfl) rfl ?_
  refine TI.run 2 [1] [0] (a2 := (st 6 [(1, .pointer (some ⟨0, 0, none⟩))])) (h2 := [.cells 27 [.int .i64 p0, .int .i64 p1]]) (by kernel_rfl) ?_
  refine TI.done (by kernel_rfl) ?_
  refine NX.sq ?_
  refine TS.seq' (x := c76.s2.s1) (y := c76.s2.s2) (by kernel_rfl) ?_
  have hX := of_do hF
  clear hF
  obtain ⟨r1, h2, hF⟩ := hX
  have hX := of_do hF
  clear hF
  obtain ⟨m3, hm4, hF⟩ := hX
  have hK : NX Try.prog 0 0 [.sq c76.s2.s2] (FinP Try.prog Try.f76 0 (V76 0 r) (N76 0 r)) .normal (st 6 [(2, .bool m3)]) [.dead] := by
    refine NX.sq ?_
    refine TS.ret' (by kernel_rfl) ?_
    have hF := Option.some.inj hF
    subst hF
    exact ⟨.inr rfl, rfl, .bool m3, by kernel_rfl, WkV.flat0 (by kernel_rfl) (Nat.le_of_ble_eq_true rfl)⟩
  cases r1 with
  | true =>
    replace hm4 := of_pos hm4 rfl
    have hm4 := Option.some.inj hm4
    subst hm4
    refine TS.region' (id := 1) (b := false) (ops := c76.s2.s1.rops) (by kernel_rfl) rfl ?_
    refine TI.run 1 [3] [] (a2 := (st 6 [(3, .agg ⟨[.int .i64 p0, .int .i64 p1]⟩)])) (h2 := [.dead]) (by kernel_rfl) ?_
    refine TI.callM (g := 77) (args := [.agg ⟨[.int .i64 p0, .int .i64 p1]⟩]) (v := .bool true) (new := []) (by kernel_rfl) (PureSim.any (C77 p0 p1 true h2) (flatL (by kernel_rfl)) (by kernel_rfl) [.dead]) [4] [] (a2 := (st 6 [(4, .bool true)])) (h2 := [.dead]) (by kernel_rfl) ?_
    refine TI.run 2 [2] [] (a2 := (st 6 [(2, .bool false)])) (h2 := [.dead]) (by kernel_rfl) ?_
    refine TI.done (by kernel_rfl) ?_
    exact hK
  | false =>
    replace hm4 := of_neg hm4 rfl
    have hm4 := Option.some.inj hm4
    subst hm4
    refine TS.region' (id := 1) (b := false) (ops := c76.s2.s1.rops) (by kernel_rfl) rfl ?_
    refine TI.run 1 [3] [] (a2 := (st 6 [(3, .agg ⟨[.int .i64 p0, .int .i64 p1]⟩)])) (h2 := [.dead]) (by kernel_rfl) ?_
    refine TI.callM (g := 77) (args := [.agg ⟨[.int .i64 p0, .int .i64 p1]⟩]) (v := .bool false) (new := []) (by kernel_rfl) (PureSim.any (C77 p0 p1 false h2) (flatL (by kernel_rfl)) (by kernel_rfl) [.dead]) [4] [] (a2 := (st 6 [(4, .bool false)])) (h2 := [.dead]) (by kernel_rfl) ?_
    refine TI.run 2 [2] [] (a2 := (st 6 [(2, .bool true)])) (h2 := [.dead]) (by kernel_rfl) ?_
    refine TI.done (by kernel_rfl) ?_
    exact hK
theorem C76 (p0 : Int) (p1 : Int) (r : Bool) (hF : F76 p0 p1 = some r) : PureSim Try.prog 76 [.agg ⟨[.int .i64 p0, .int .i64 p1]⟩] [] (V76 0 r) (N76 0 r) :=
  PureSim.of_Fin Try.func76 (c := c76) (by kernel_rfl) (by kernel_rfl) 0 rfl [0] [] (by kernel_rfl) (B76 p0 p1 r hF)

-- slices.IndexFunc[[]agonic/magnet.Choice,agonic/magnet.Choice]
noncomputable def c84 : Code := Try.f84.code
def F84l0 (p0 : (List (Int × Int))) (v7 : Int) : Option (Int ⊕ Unit) :=
    if decide (v7 < (List.length p0 : Int)) then
      if 0 ≤ v7 ∧ v7 < (List.length p0 : Int) then
        some (List.getD p0 (Int.toNat v7) (0, 0)) >>= fun o17 =>
        F76 o17.1 o17.2 >>= fun r19 =>
        if r19 then
          some (.inl v7)
        else
          F84l0 p0 (w64 (v7 + 1))
      else none
    else
      some (.inr ())
  partial_fixpoint
def F84 (p0 : (List (Int × Int))) : Option Int :=
  F84l0 p0 0 >>= fun r21 =>
  match r21 with
  | .inl o23 =>
    some o23
  | .inr o24 =>
    some (-1)
def V84 (b : Nat) (r : Int) : Value := .int .i64 r
def N84 (b : Nat) (r : Int) : List Blk := []
def P84l0 (p0 : (List (Int × Int))) (r : (Int ⊕ Unit)) : Post := fun e a h => (match r with | .inl q0 => e = .ret ∧ Wk Try.prog 1 1 a h (st 19 [(4, .int .i64 q0)]) [accB 27 (List.length p0) (List.flatMap e27 p0)] | .inr q0 => e = .exit 0 ∧ Wk Try.prog 1 1 a h (st 19 []) [accB 27 (List.length p0) (List.flatMap e27 p0)])
theorem L84l0 (p0 : (List (Int × Int))) (v7 : Int) (r : (Int ⊕ Unit)) (hF : F84l0 p0 v7 = some r) : TL Try.prog 1 1 c84.s2.s1.s2.bd.bd (st 19 [(0, .slice (some ⟨0, 0, none⟩) (List.length p0) ANY), (1, .func (.func 76) ⟨[]⟩ ⟨[]⟩), (7, .int .i64 (List.length p0 : Int)), (8, .int .i64 v7)]) [accB 27 (List.length p0) (List.flatMap e27 p0)] (P84l0 p0 r) := by
  refine F84l0.partial_correctness p0 (motive := fun v7 r => TL Try.prog 1 1 c84.s2.s1.s2.bd.bd (st 19 [(0, .slice (some ⟨0, 0, none⟩) (List.length p0) ANY), (1, .func (.func 76) ⟨[]⟩ ⟨[]⟩), (7, .int .i64 (List.length p0 : Int)), (8, .int .i64 v7)]) [accB 27 (List.length p0) (List.flatMap e27 p0)] (P84l0 p0 r)) ?_ v7 r hF
  clear hF r v7
  intro again ih v7 r hF
  refine TL.round ?_
  refine TS.seq' (x := c84.s2.s1.s2.bd.bd.s1) (y := c84.s2.s1.s2.bd.bd.s2) (by kernel_rfl) ?_
  refine TS.region' (id := 2) (b := false) (ops := c84.s2.s1.s2.bd.bd.s1.rops) (by kernel_rfl) rfl ?_
  refine TI.run 1 [0, 1, 7, 8, 9] [0] (a2 := (st 19 [(0, .slice (some ⟨0, 0, none⟩) (List.length p0) ANY), (1, .func (.func 76) ⟨[]⟩ ⟨[]⟩), (7, .int .i64 (List.length p0 : Int)), (8, .int .i64 v7), (9, .bool (decide (v7 < (List.length p0 : Int))))])) (h2 := [accB 27 (List.length p0) (List.flatMap e27 p0)]) (by kernel_rfl) ?_
  refine TI.done (by kernel_rfl) ?_
  refine NX.sq ?_
  refine TS.seq' (x := c84.s2.s1.s2.bd.bd.s2.s1) (y := c84.s2.s1.s2.bd.bd.s2.s2) (by kernel_rfl) ?_
  refine TS.cond' (o := (.tmp 9)) (x := c84.s2.s1.s2.bd.bd.s2.s1.th) (y := c84.s2.s1.s2.bd.bd.s2.s1.el) (b := decide (v7 < (List.length p0 : Int))) (by kernel_rfl) (by kernel_rfl) (fun hc15 => ?_) (fun hc15 => ?_)
  · replace hF := of_pos hF hc15
    refine TS.skip' (by kernel_rfl) ?_
    refine NX.sq ?_
    refine TS.seq' (x := c84.s2.s1.s2.bd.bd.s2.s2.s1) (y := c84.s2.s1.s2.bd.bd.s2.s2.s2) (by kernel_rfl) ?_
    refine TS.block' (id := 1) (x := c84.s2.s1.s2.bd.bd.s2.s2.s1.bd) (by kernel_rfl) ?_
    refine TS.seq' (x := c84.s2.s1.s2.bd.bd.s2.s2.s1.bd.s1) (y := c84.s2.s1.s2.bd.bd.s2.s2.s1.bd.s2) (by kernel_rfl) ?_
    refine TS.region' (id := 3) (b := false) (ops := c84.s2.s1.s2.bd.bd.s2.s2.s1.bd.s1.rops) (by kernel_rfl) rfl ?_
    refine TI.run 2 [0, 1, 5, 7, 8] [0] (a2 := (st 19 [(0, .slice (some ⟨0, 0, none⟩) (List.length p0) ANY), (1, .func (.func 76) ⟨[]⟩ ⟨[]⟩), (5, .int .i64 v7), (7, .int .i64 (List.length p0 : Int)), (8, .int .i64 v7)])) (h2 := [accB 27 (List.length p0) (List.flatMap e27 p0)]) (by kernel_rfl) ?_
    refine TI.done (by kernel_rfl) ?_
    refine NX.sq ?_
    refine TS.seq' (x := c84.s2.s1.s2.bd.bd.s2.s2.s1.bd.s2.s1) (y := c84.s2.s1.s2.bd.bd.s2.s2.s1.bd.s2.s2) (by kernel_rfl) ?_
    have hX := of_guard hF
    clear hF
    obtain ⟨hg16, hF⟩ := hX
    have hX := of_do hF
    clear hF
    obtain ⟨o17, h18, hF⟩ := hX
    replace h18 := Option.some.inj h18
    have hX := of_do hF
    clear hF
    obtain ⟨r19, h20, hF⟩ := hX
    refine TS.region' (id := 4) (b := false) (ops := c84.s2.s1.s2.bd.bd.s2.s2.s1.bd.s2.s1.rops) (by kernel_rfl) rfl ?_
    refine TI.run 3 [0, 1, 5, 7, 8, 11, 12, 13] [0] (a2 := (st 19 [(0, .slice (some ⟨0, 0, none⟩) (List.length p0) ANY), (1, .func (.func 76) ⟨[]⟩ ⟨[]⟩), (5, .int .i64 v7), (7, .int .i64 (List.length p0 : Int)), (8, .int .i64 v7), (11, .func (.func 76) ⟨[]⟩ ⟨[]⟩), (12, .slice (some ⟨0, 0, none⟩) (List.length p0) ANY), (13, .int .i64 v7)])) (h2 := [accB 27 (List.length p0) (List.flatMap e27 p0)]) (by kernel_rfl) ?_
    refine TI.op (q := { val := .pointer (some ⟨0, 0 + (Int.toNat v7) * 2, none⟩) }) (q_ixS 0 0 ((Int.toNat v7) * 2) (by kernel_rfl) hg16) [0, 1, 5, 7, 8, 11, 14] [0] (a2 := (st 19 [(0, .slice (some ⟨0, 0, none⟩) (List.length p0) ANY), (1, .func (.func 76) ⟨[]⟩ ⟨[]⟩), (5, .int .i64 v7), (7, .int .i64 (List.length p0 : Int)), (8, .int .i64 v7), (11, .func (.func 76) ⟨[]⟩ ⟨[]⟩), (14, .pointer (some ⟨0, 0 + (Int.toNat v7) * 2, none⟩))])) (h2 := [accB 27 (List.length p0) (List.flatMap e27 p0)]) (by kernel_rfl) ?_
    refine TI.op (q := { val := .agg ⟨[.int .i64 o17.1, .int .i64 o17.2]⟩ }) (q_eqv (q_ldA (P := Try.prog) (hp := [accB 27 (List.length p0) (List.flatMap e27 p0)]) (t := 27) (b := 0) (off := 0 + (Int.toNat v7) * 2) (l := p0) (enc := e27) (s := 2) (T := 27) (i := Int.toNat v7) (by kernel_rfl) (accB_at (h := [accB 27 (List.length p0) (List.flatMap e27 p0)]) (n := List.length p0) (i := Int.toNat v7) (by kernel_rfl) (by first | omega | (simp only [List.length_set, List.length_replicate, List.length_cons, List.length_nil, List.length_append]; omega))) (by kernel_rfl) (by kernel_rfl) (fun _ => rfl) (by omega) (by first | omega | (simp only [List.length_set, List.length_replicate, List.length_cons, List.length_nil, List.length_append]; omega)) (0, 0)) (congrArg (fun (z : (Int × Int)) => ({ val := .agg ⟨[.int .i64 z.1, .int .i64 z.2]⟩ } : QRes)) h18)) [0, 1, 5, 7, 8, 11, 15] [0] (a2 := (st 19 [(0, .slice (some ⟨0, 0, none⟩) (List.length p0) ANY), (1, .func (.func 76) ⟨[]⟩ ⟨[]⟩), (5, .int .i64 v7), (7, .int .i64 (List.length p0 : Int)), (8, .int .i64 v7), (11, .func (.func 76) ⟨[]⟩ ⟨[]⟩), (15, .agg ⟨[.int .i64 o17.1, .int .i64 o17.2]⟩)])) (h2 := [accB 27 (List.length p0) (List.flatMap e27 p0)]) (by kernel_rfl) ?_
    refine TI.callM (g := 76) (args := [.agg ⟨[.int .i64 o17.1, .int .i64 o17.2]⟩]) (v := .bool r19) (new := []) (by kernel_rfl) (PureSim.any (C76 o17.1 o17.2 r19 h20) (flatL (by kernel_rfl)) (by kernel_rfl) [accB 27 (List.length p0) (List.flatMap e27 p0)]) [0, 1, 5, 7, 8, 16] [0] (a2 := (st 19 [(0, .slice (some ⟨0, 0, none⟩) (List.length p0) ANY), (1, .func (.func 76) ⟨[]⟩ ⟨[]⟩), (5, .int .i64 v7), (7, .int .i64 (List.length p0 : Int)), (8, .int .i64 v7), (16, .bool r19)])) (h2 := [accB 27 (List.length p0) (List.flatMap e27 p0)]) (by kernel_rfl) ?_
    refine TI.done (by kernel_rfl) ?_
    refine NX.sq ?_
    cases r19 with
    | true =>
      replace hF := of_pos hF rfl
      refine TS.condT' (o := (.tmp 16)) (x := c84.s2.s1.s2.bd.bd.s2.s2.s1.bd.s2.s2.th) (y := c84.s2.s1.s2.bd.bd.s2.s2.s1.bd.s2.s2.el) (by kernel_rfl) (by kernel_rfl) ?_
      refine TS.seq' (x := c84.s2.s1.s2.bd.bd.s2.s2.s1.bd.s2.s2.th.s1) (y := c84.s2.s1.s2.bd.bd.s2.s2.s1.bd.s2.s2.th.s2) (by kernel_rfl) ?_
      refine TS.region' (id := 5) (b := false) (ops := c84.s2.s1.s2.bd.bd.s2.s2.s1.bd.s2.s2.th.s1.rops) (by kernel_rfl) rfl ?_
      refine TI.run 2 [4] [0] (a2 := (st 19 [(4, .int .i64 v7)])) (h2 := [accB 27 (List.length p0) (List.flatMap e27 p0)]) (by kernel_rfl) ?_
      refine TI.done (by kernel_rfl) ?_
      refine NX.sq ?_
      refine TS.ret' (by kernel_rfl) ?_
      refine NX.bkR ?_
      refine NX.sqR ?_
      have hF := Option.some.inj hF
      subst hF
      exact Rd.out (e := .ret) (by intro h; cases h) (And.intro rfl (Wk.anew (base := 1) (L := 1) (f := []) (by decide) (by decide) (Nat.le_of_ble_eq_true rfl) rfl (.cons (At.acc (by kernel_rfl) rfl (fun _ => rfl)) (.nil _)) (LRn.stx [4] [.int .i64 v7] [.int .i64 v7] (.cons (.flat (by kernel_rfl)) .nil) (by kernel_rfl) (by kernel_rfl) rfl) rfl rfl))
    | false =>
      replace hF := of_neg hF rfl
      refine TS.condF' (o := (.tmp 16)) (x := c84.s2.s1.s2.bd.bd.s2.s2.s1.bd.s2.s2.th) (y := c84.s2.s1.s2.bd.bd.s2.s2.s1.bd.s2.s2.el) (by kernel_rfl) (by kernel_rfl) ?_
      refine TS.skip' (by kernel_rfl) ?_
      refine NX.bk ?_
      refine NX.sq ?_
      refine TS.region' (id := 6) (b := false) (ops := c84.s2.s1.s2.bd.bd.s2.s2.s2.rops) (by kernel_rfl) rfl ?_
      refine TI.run 2 [0, 1, 7, 8] [0] (a2 := (st 19 [(0, .slice (some ⟨0, 0, none⟩) (List.length p0) ANY), (1, .func (.func 76) ⟨[]⟩ ⟨[]⟩), (7, .int .i64 (List.length p0 : Int)), (8, .int .i64 (w64 (v7 + 1)))])) (h2 := [accB 27 (List.length p0) (List.flatMap e27 p0)]) (by kernel_rfl) ?_
      refine TI.done (by kernel_rfl) ?_
      exact Rd.again (a2 := (st 19 [(0, .slice (some ⟨0, 0, none⟩) (List.length p0) ANY), (1, .func (.func 76) ⟨[]⟩ ⟨[]⟩), (7, .int .i64 (List.length p0 : Int)), (8, .int .i64 (w64 (v7 + 1)))])) (h2 := [accB 27 (List.length p0) (List.flatMap e27 p0)]) (Wk.anew (base := 1) (L := 1) (f := []) (by decide) (by decide) (Nat.le_of_ble_eq_true rfl) rfl (.cons (At.acc (by kernel_rfl) rfl (fun _ => rfl)) (.nil _)) (LRn.stx [0, 1, 7, 8] [.slice (some ⟨0, 0, none⟩) (List.length p0) ANY, .func (.func 76) ⟨[]⟩ ⟨[]⟩, .int .i64 (List.length p0 : Int), .int .i64 (w64 (v7 + 1))] [.slice (some ⟨0, 0, none⟩) (List.length p0) ANY, .func (.func 76) ⟨[]⟩ ⟨[]⟩, .int .i64 (List.length p0 : Int), .int .i64 (w64 (v7 + 1))] (.cons (Rn.slice0 _ _ _ _ (Nat.le_of_ble_eq_true rfl) rfl) (.cons (Rn.func' .nil .nil) (.cons (.flat (by kernel_rfl)) (.cons (.flat (by kernel_rfl)) .nil)))) (by kernel_rfl) (by kernel_rfl) rfl) rfl rfl) (ih (w64 (v7 + 1)) _ hF)
  · replace hF := of_neg hF hc15
    refine TS.exit' (id := 0) (by kernel_rfl) ?_
    refine NX.sqX ?_
    have hF := Option.some.inj hF
    subst hF
    exact Rd.out (e := .exit 0) (by intro h; cases h) (And.intro rfl (Wk.anew (base := 1) (L := 1) (f := []) (by decide) (by decide) (Nat.le_of_ble_eq_true rfl) rfl (.cons (At.acc (by kernel_rfl) rfl (fun _ => rfl)) (.nil _)) (LRn.stx [] [] [] .nil (by kernel_rfl) (by kernel_rfl) rfl) rfl rfl))
theorem B84 (p0 : (List (Int × Int))) (r : Int) (hF : F84 p0 = some r) : TS Try.prog 1 1 c84 (st 19 [(0, .slice (some ⟨0, 0, none⟩) (List.length p0) ANY), (1, .func (.func 76) ⟨[]⟩ ⟨[]⟩)]) [accB 27 (List.length p0) (List.flatMap e27 p0)] (NX Try.prog 1 1 [] (FinP Try.prog Try.f84 1 (V84 1 r) (N84 1 r))) := by
  unfold F84 at hF
  refine TS.seq' (x := c84.s1) (y := c84.s2) (by kernel_rfl) ?_
  refine TS.region' (id := 0) (b := false) (ops := c84.s1.rops) (by kernel_rfl) rfl ?_
  refine TI.run 1 [0, 1] [0] (a2 := (st 19 [(0, .slice (some ⟨0, 0, none⟩) (List.length p0) ANY), (1, .func (.func 76) ⟨[]⟩ ⟨[]⟩)])) (h2 := [accB 27 (List.length p0) (List.flatMap e27 p0)]) (by kernel_rfl) ?_
  refine TI.done (by kernel_rfl) ?_
  refine NX.sq ?_
  refine TS.seq' (x := c84.s2.s1) (y := c84.s2.s2) (by kernel_rfl) ?_
  refine TS.seq' (x := c84.s2.s1.s1) (y := c84.s2.s1.s2) (by kernel_rfl) ?_
  refine TS.region' (id := 1) (b := false) (ops := c84.s2.s1.s1.rops) (by kernel_rfl) rfl ?_
  refine TI.run 3 [0, 1, 7, 8] [0] (a2 := (st 19 [(0, .slice (some ⟨0, 0, none⟩) (List.length p0) ANY), (1, .func (.func 76) ⟨[]⟩ ⟨[]⟩), (7, .int .i64 (List.length p0 : Int)), (8, .int .i64 0)])) (h2 := [accB 27 (List.length p0) (List.flatMap e27 p0)]) (by kernel_rfl) ?_
  refine TI.done (by kernel_rfl) ?_
  refine NX.sq ?_
  refine TS.block' (id := 0) (x := c84.s2.s1.s2.bd) (by kernel_rfl) ?_
  have hX := of_do hF
  clear hF
  obtain ⟨r21, h22, hF⟩ := hX
  refine TS.loop' (x := c84.s2.s1.s2.bd.bd) (by kernel_rfl) (TL.weak (a2 := (st 19 [(0, .slice (some ⟨0, 0, none⟩) (List.length p0) ANY), (1, .func (.func 76) ⟨[]⟩ ⟨[]⟩), (7, .int .i64 (List.length p0 : Int)), (8, .int .i64 0)])) (h2 := [accB 27 (List.length p0) (List.flatMap e27 p0)]) (Wk.anew (base := 1) (L := 1) (f := []) (by decide) (by decide) (Nat.le_of_ble_eq_true rfl) rfl (.cons (At.acc (by kernel_rfl) rfl (fun _ => rfl)) (.nil _)) (LRn.stx [0, 1, 7, 8] [.slice (some ⟨0, 0, none⟩) (List.length p0) ANY, .func (.func 76) ⟨[]⟩ ⟨[]⟩, .int .i64 (List.length p0 : Int), .int .i64 0] [.slice (some ⟨0, 0, none⟩) (List.length p0) ANY, .func (.func 76) ⟨[]⟩ ⟨[]⟩, .int .i64 (List.length p0 : Int), .int .i64 0] (.cons (Rn.slice0 _ _ _ _ (Nat.le_of_ble_eq_true rfl) rfl) (.cons (Rn.func' .nil .nil) (.cons (.flat (by kernel_rfl)) (.cons (.flat (by kernel_rfl)) .nil)))) (by kernel_rfl) (by kernel_rfl) rfl) rfl rfl) (TL.post (L84l0 p0 0 r21 h22) ?_))
  rintro e a1 h1 hp
  rcases r21 with o23 | o24
  · skip
    obtain ⟨rfl, hw⟩ := hp
    refine ⟨(st 19 [(4, .int .i64 o23)]), [accB 27 (List.length p0) (List.flatMap e27 p0)], ?_, hw⟩
    refine NX.bkR ?_
    refine NX.sqR ?_
    have hF := Option.some.inj hF
    subst hF
    exact ⟨.inr rfl, rfl, .int .i64 o23, by kernel_rfl, WkV.flat0 (by kernel_rfl) (Nat.le_of_ble_eq_true rfl)⟩
  · skip
    obtain ⟨rfl, hw⟩ := hp
    refine ⟨(st 19 []), [accB 27 (List.length p0) (List.flatMap e27 p0)], ?_, hw⟩
    refine NX.bkX ?_
    refine NX.sq ?_
    refine TS.seq' (x := c84.s2.s2.s1) (y := c84.s2.s2.s2) (by kernel_rfl) ?_
    refine TS.region' (id := 7) (b := false) (ops := c84.s2.s2.s1.rops) (by kernel_rfl) rfl ?_
    refine TI.run 1 [4] [0] (a2 := (st 19 [(4, .int .i64 (-1))])) (h2 := [accB 27 (List.length p0) (List.flatMap e27 p0)]) (by kernel_rfl) ?_
    refine TI.done (by kernel_rfl) ?_
    refine NX.sq ?_
    refine TS.ret' (by kernel_rfl) ?_
    have hF := Option.some.inj hF
    subst hF
    exact ⟨.inr rfl, rfl, .int .i64 (-1), by kernel_rfl, WkV.flat0 (by kernel_rfl) (Nat.le_of_ble_eq_true rfl)⟩
theorem C84 (p0 : (List (Int × Int))) (r : Int) (hF : F84 p0 = some r) : PureSim Try.prog 84 [.slice (some ⟨0, 0, none⟩) (List.length p0) ANY, .func (.func 76) ⟨[]⟩ ⟨[]⟩] [accB 27 (List.length p0) (List.flatMap e27 p0)] (V84 1 r) (N84 1 r) :=
  PureSim.of_Fin Try.func84 (c := c84) (by kernel_rfl) (by kernel_rfl) 1 rfl [0, 1] [0] (by kernel_rfl) (B84 p0 r hF)

-- slices.ContainsFunc[[]agonic/magnet.Choice,agonic/magnet.Choice]
noncomputable def c75 : Code := Try.f75.code
def F75 (p0 : (List (Int × Int))) : Option Bool :=
  F84 p0 >>= fun r1 =>
  some (decide (r1 ≥ 0))
def V75 (b : Nat) (r : Bool) : Value := .bool r
def N75 (b : Nat) (r : Bool) : List Blk := []
theorem B75 (p0 : (List (Int × Int))) (r : Bool) (hF : F75 p0 = some r) : TS Try.prog 1 1 c75 (st 9 [(0, .slice (some ⟨0, 0, none⟩) (List.length p0) ANY), (1, .func (.func 76) ⟨[]⟩ ⟨[]⟩)]) [accB 27 (List.length p0) (List.flatMap e27 p0)] (NX Try.prog 1 1 [] (FinP Try.prog Try.f75 1 (V75 1 r) (N75 1 r))) := by
  unfold F75 at hF
  refine TS.seq' (x := c75.s1) (y := c75.s2) (by kernel_rfl) ?_
  refine TS.region' (id := 0) (b := false) (ops := c75.s1.rops) (by kernel_rfl) rfl ?_
  refine TI.run 1 [0, 1] [0] (a2 := (st 9 [(0, .slice (some ⟨0, 0, none⟩) (List.length p0) ANY), (1, .func (.func 76) ⟨[]⟩ ⟨[]⟩)])) (h2 := [accB 27 (List.length p0) (List.flatMap e27 p0)]) (by kernel_rfl) ?_
  refine TI.done (by kernel_rfl) ?_
  refine NX.sq ?_
  refine TS.seq' (x := c75.s2.s1) (y := c75.s2.s2) (by kernel_rfl) ?_
  have hX := of_do hF
  clear hF
  obtain ⟨r1, h2, hF⟩ := hX
  refine TS.region' (id := 1) (b := false) (ops := c75.s2.s1.rops) (by kernel_rfl) rfl ?_
  refine TI.run 2 [5, 6] [0] (a2 := (st 9 [(5, .slice (some ⟨0, 0, none⟩) (List.length p0) ANY), (6, .func (.func 76) ⟨[]⟩ ⟨[]⟩)])) (h2 := [accB 27 (List.length p0) (List.flatMap e27 p0)]) (by kernel_rfl) ?_
  refine TI.callM (g := 84) (args := [.slice (some ⟨0, 0, none⟩) (List.length p0) ANY, .func (.func 76) ⟨[]⟩ ⟨[]⟩]) (v := .int .i64 r1) (new := []) (by kernel_rfl) (PureSim.ren (hc := [accB 27 (List.length p0) (List.flatMap e27 p0)]) (fun i => List.getD [(0, 0)] i (0, 0)) (C84 p0 r1 h2) (.cons (At.acc (by kernel_rfl) rfl (fun _ => rfl)) (.nil _)) (.cons (Rn.any _ _ _ _ _ _ (Nat.le_of_ble_eq_true rfl) rfl rfl (by decide)) (.cons (Rn.func' .nil .nil) .nil)) (.flat (by kernel_rfl)) newflat_nil) [7] [0] (a2 := (st 9 [(7, .int .i64 r1)])) (h2 := [accB 27 (List.length p0) (List.flatMap e27 p0)]) (by kernel_rfl) ?_
  refine TI.run 2 [4] [0] (a2 := (st 9 [(4, .bool (decide (r1 ≥ 0)))])) (h2 := [accB 27 (List.length p0) (List.flatMap e27 p0)]) (by kernel_rfl) ?_
  refine TI.done (by kernel_rfl) ?_
  refine NX.sq ?_
  refine TS.ret' (by kernel_rfl) ?_
  have hF := Option.some.inj hF
  subst hF
  exact ⟨.inr rfl, rfl, .bool (decide (r1 ≥ 0)), by kernel_rfl, WkV.flat0 (by kernel_rfl) (Nat.le_of_ble_eq_true rfl)⟩
theorem C75 (p0 : (List (Int × Int))) (r : Bool) (hF : F75 p0 = some r) : PureSim Try.prog 75 [.slice (some ⟨0, 0, none⟩) (List.length p0) ANY, .func (.func 76) ⟨[]⟩ ⟨[]⟩] [accB 27 (List.length p0) (List.flatMap e27 p0)] (V75 1 r) (N75 1 r) :=
  PureSim.of_Fin Try.func75 (c := c75) (by kernel_rfl) (by kernel_rfl) 1 rfl [0, 1] [0] (by kernel_rfl) (B75 p0 r hF)

-- (agonic/magnet.Kit).check
noncomputable def c52 : Code := Try.f52.code
def F52 (p0 : Int) (p1 : Int) (p2 : Int) (p3 : Int) (p4 : Int) (p5 : Int) (p6 : (List (Int × Int))) : Option Int :=
  F20 p0 p1 p2 p3 >>= fun r1 =>
  if r1 != 0 then
    some r1
  else
    F58 p4 p5 10000 >>= fun r4 =>
    (
      if r4 then
        F75 p6 >>= fun r6 =>
        some (r6)
      else
        some (true)
    : Option Bool) >>= fun m8 =>
    if m8 then
      some 1
    else
      some 0
def V52 (b : Nat) (r : Int) : Value := .int .i64 r
def N52 (b : Nat) (r : Int) : List Blk := []
theorem B52 (p0 : Int) (p1 : Int) (p2 : Int) (p3 : Int) (p4 : Int) (p5 : Int) (p6 : (List (Int × Int))) (r : Int) (hF : F52 p0 p1 p2 p3 p4 p5 p6 = some r) : TS Try.prog 1 1 c52 (st 20 [(0, .agg ⟨[.int .i64 p0, .int .i64 p1, .int .i64 p2, .int .i64 p3]⟩), (1, .agg ⟨[.int .i64 p4, .int .i64 p5]⟩), (2, .slice (some ⟨0, 0, none⟩) (List.length p6) ANY)]) [accB 27 (List.length p6) (List.flatMap e27 p6)] (NX Try.prog 1 1 [] (FinP Try.prog Try.f52 1 (V52 1 r) (N52 1 r))) := by
  unfold F52 at hF
  refine TS.seq' (x := c52.s1) (y := c52.s2) (by kernel_rfl) ?_
  refine TS.region' (id := 0) (b := false) (ops := c52.s1.rops) (by kernel_rfl) rfl ?_
  refine TI.run 3 [2, 3, 4] [0, 1, 2] (a2 := (st 20 [(2, .slice (some ⟨0, 0, none⟩) (List.length p6) ANY), (3, .pointer (some ⟨1, 0, none⟩)), (4, .pointer (some ⟨2, 0, none⟩))])) (h2 := [accB 27 (List.length p6) (List.flatMap e27 p6), .cells 25 [.int .i64 p0, .int .i64 p1, .int .i64 p2, .int .i64 p3], .cells 23 [.int .i64 p4, .int .i64 p5]]) (by kernel_rfl) ?_
  refine TI.done (by kernel_rfl) ?_
  refine NX.sq ?_
  refine TS.seq' (x := c52.s2.s1) (y := c52.s2.s2) (by kernel_rfl) ?_
  refine TS.seq' (x := c52.s2.s1.s1) (y := c52.s2.s1.s2) (by kernel_rfl) ?_
  have hX := of_do hF
  clear hF
  obtain ⟨r1, h2, hF⟩ := hX
  refine TS.region' (id := 1) (b := false) (ops := c52.s2.s1.s1.rops) (by kernel_rfl) rfl ?_
  refine TI.run 1 [2, 4, 8] [0, 2] (a2 := (st 20 [(2, .slice (some ⟨0, 0, none⟩) (List.length p6) ANY), (4, .pointer (some ⟨2, 0, none⟩)), (8, .agg ⟨[.int .i64 p0, .int .i64 p1, .int .i64 p2, .int .i64 p3]⟩)])) (h2 := [accB 27 (List.length p6) (List.flatMap e27 p6), .dead, .cells 23 [.int .i64 p4, .int .i64 p5]]) (by kernel_rfl) ?_
  refine TI.callM (g := 20) (args := [.agg ⟨[.int .i64 p0, .int .i64 p1, .int .i64 p2, .int .i64 p3]⟩]) (v := .int .i64 r1) (new := []) (by kernel_rfl) (PureSim.any (C20 p0 p1 p2 p3 r1 h2) (flatL (by kernel_rfl)) (by kernel_rfl) [accB 27 (List.length p6) (List.flatMap e27 p6), .dead, .cells 23 [.int .i64 p4, .int .i64 p5]]) [2, 4, 9] [0, 2] (a2 := (st 20 [(2, .slice (some ⟨0, 0, none⟩) (List.length p6) ANY), (4, .pointer (some ⟨2, 0, none⟩)), (9, .int .i64 r1)])) (h2 := [accB 27 (List.length p6) (List.flatMap e27 p6), .dead, .cells 23 [.int .i64 p4, .int .i64 p5]]) (by kernel_rfl) ?_
  refine TI.run 1 [2, 4, 7] [0, 2] (a2 := (st 20 [(2, .slice (some ⟨0, 0, none⟩) (List.length p6) ANY), (4, .pointer (some ⟨2, 0, none⟩)), (7, .int .i64 r1)])) (h2 := [accB 27 (List.length p6) (List.flatMap e27 p6), .dead, .cells 23 [.int .i64 p4, .int .i64 p5]]) (by kernel_rfl) ?_
  refine TI.done (by kernel_rfl) ?_
  refine NX.sq ?_
  refine TS.seq' (x := c52.s2.s1.s2.s1) (y := c52.s2.s1.s2.s2) (by kernel_rfl) ?_
  refine TS.region' (id := 2) (b := false) (ops := c52.s2.s1.s2.s1.rops) (by kernel_rfl) rfl ?_
  refine TI.run 2 [2, 4, 7, 11] [0, 2] (a2 := (st 20 [(2, .slice (some ⟨0, 0, none⟩) (List.length p6) ANY), (4, .pointer (some ⟨2, 0, none⟩)), (7, .int .i64 r1), (11, .bool (r1 != 0))])) (h2 := [accB 27 (List.length p6) (List.flatMap e27 p6), .dead, .cells 23 [.int .i64 p4, .int .i64 p5]]) (by kernel_rfl) ?_
  refine TI.done (by kernel_rfl) ?_
  refine NX.sq ?_
  refine TS.cond' (o := (.tmp 11)) (x := c52.s2.s1.s2.s2.th) (y := c52.s2.s1.s2.s2.el) (b := r1 != 0) (by kernel_rfl) (by kernel_rfl) (fun hc3 => ?_) (fun hc3 => ?_)
  · replace hF := of_pos hF hc3
    refine TS.seq' (x := c52.s2.s1.s2.s2.th.s1) (y := c52.s2.s1.s2.s2.th.s2) (by kernel_rfl) ?_
    refine TS.region' (id := 3) (b := false) (ops := c52.s2.s1.s2.s2.th.s1.rops) (by kernel_rfl) rfl ?_
    refine TI.run 2 [6] [0] (a2 := (st 20 [(6, .int .i64 r1)])) (h2 := [accB 27 (List.length p6) (List.flatMap e27 p6), .dead, .dead]) (by kernel_rfl) ?_
    refine TI.done (by kernel_rfl) ?_
    refine NX.sq ?_
    refine TS.ret' (by kernel_rfl) ?_
    refine NX.sqR ?_
    have hF := Option.some.inj hF
    subst hF
    exact ⟨.inr rfl, rfl, .int .i64 r1, by kernel_rfl, WkV.flat0 (by kernel_rfl) (Nat.le_of_ble_eq_true rfl)⟩
  · replace hF := of_neg hF hc3
    refine TS.skip' (by kernel_rfl) ?_
    refine NX.sq ?_
    refine TS.seq' (x := c52.s2.s2.s1) (y := c52.s2.s2.s2) (by kernel_rfl) ?_
    refine TS.seq' (x := c52.s2.s2.s1.s1) (y := c52.s2.s2.s1.s2) (by kernel_rfl) ?_
    have hX := of_do hF
    clear hF
    obtain ⟨r4, h5, hF⟩ := hX
    have hX := of_do hF
    clear hF
    obtain ⟨m8, hm9, hF⟩ := hX
    have hK : NX Try.prog 1 1 [.sq c52.s2.s2.s1.s2, .sq c52.s2.s2.s2] (FinP Try.prog Try.f52 1 (V52 1 r) (N52 1 r)) .normal (st 20 [(19, .bool m8)]) [accB 27 (List.length p6) (List.flatMap e27 p6), .dead, .dead] := by
      refine NX.sq ?_
      cases m8 with
      | true =>
        replace hF := of_pos hF rfl
        refine TS.condT' (o := (.tmp 19)) (x := c52.s2.s2.s1.s2.th) (y := c52.s2.s2.s1.s2.el) (by kernel_rfl) (by kernel_rfl) ?_
        refine TS.seq' (x := c52.s2.s2.s1.s2.th.s1) (y := c52.s2.s2.s1.s2.th.s2) (by kernel_rfl) ?_
        refine TS.region' (id := 5) (b := false) (ops := c52.s2.s2.s1.s2.th.s1.rops) (by kernel_rfl) rfl ?_
        refine TI.run 1 [6] [0] (a2 := (st 20 [(6, .int .i64 1)])) (h2 := [accB 27 (List.length p6) (List.flatMap e27 p6), .dead, .dead]) (by kernel_rfl) ?_
        refine TI.done (by kernel_rfl) ?_
        refine NX.sq ?_
        refine TS.ret' (by kernel_rfl) ?_
        refine NX.sqR ?_
        have hF := Option.some.inj hF
        subst hF
        exact ⟨.inr rfl, rfl, .int .i64 1, by kernel_rfl, WkV.flat0 (by kernel_rfl) (Nat.le_of_ble_eq_true rfl)⟩
      | false =>
        replace hF := of_neg hF rfl
        refine TS.condF' (o := (.tmp 19)) (x := c52.s2.s2.s1.s2.th) (y := c52.s2.s2.s1.s2.el) (by kernel_rfl) (by kernel_rfl) ?_
        refine TS.skip' (by kernel_rfl) ?_
        refine NX.sq ?_
        refine TS.seq' (x := c52.s2.s2.s2.s1) (y := c52.s2.s2.s2.s2) (by kernel_rfl) ?_
        refine TS.region' (id := 6) (b := false) (ops := c52.s2.s2.s2.s1.rops) (by kernel_rfl) rfl ?_
        refine TI.run 1 [6] [0] (a2 := (st 20 [(6, .int .i64 0)])) (h2 := [accB 27 (List.length p6) (List.flatMap e27 p6), .dead, .dead]) (by kernel_rfl) ?_
        refine TI.done (by kernel_rfl) ?_
        refine NX.sq ?_
        refine TS.ret' (by kernel_rfl) ?_
        have hF := Option.some.inj hF
        subst hF
        exact ⟨.inr rfl, rfl, .int .i64 0, by kernel_rfl, WkV.flat0 (by kernel_rfl) (Nat.le_of_ble_eq_true rfl)⟩
    cases r4 with
    | true =>
      replace hm9 := of_pos hm9 rfl
      have hX := of_do hm9
      clear hm9
      obtain ⟨r6, h7, hm9⟩ := hX
      have hm9 := Option.some.inj hm9
      subst hm9
      refine TS.region' (id := 4) (b := false) (ops := c52.s2.s2.s1.s1.rops) (by kernel_rfl) rfl ?_
      refine TI.run 1 [2, 13] [0] (a2 := (st 20 [(2, .slice (some ⟨0, 0, none⟩) (List.length p6) ANY), (13, .agg ⟨[.int .i64 p4, .int .i64 p5]⟩)])) (h2 := [accB 27 (List.length p6) (List.flatMap e27 p6), .dead, .dead]) (by kernel_rfl) ?_
      refine TI.callM (g := 58) (args := [.agg ⟨[.int .i64 p4, .int .i64 p5]⟩, .int .i64 10000]) (v := .bool true) (new := []) (by kernel_rfl) (PureSim.any (C58 p4 p5 10000 true h5) (flatL (by kernel_rfl)) (by kernel_rfl) [accB 27 (List.length p6) (List.flatMap e27 p6), .dead, .dead]) [2, 14] [0] (a2 := (st 20 [(2, .slice (some ⟨0, 0, none⟩) (List.length p6) ANY), (14, .bool true)])) (h2 := [accB 27 (List.length p6) (List.flatMap e27 p6), .dead, .dead]) (by kernel_rfl) ?_
      refine TI.run 3 [16, 17] [0] (a2 := (st 20 [(16, .bool false), (17, .slice (some ⟨0, 0, none⟩) (List.length p6) ANY)])) (h2 := [accB 27 (List.length p6) (List.flatMap e27 p6), .dead, .dead]) (by kernel_rfl) ?_
      refine TI.callM (g := 75) (args := [.slice (some ⟨0, 0, none⟩) (List.length p6) ANY, .func (.func 76) ⟨[]⟩ ⟨[]⟩]) (v := .bool r6) (new := []) (by kernel_rfl) (PureSim.ren (hc := [accB 27 (List.length p6) (List.flatMap e27 p6)]) (fun i => List.getD [(0, 0)] i (0, 0)) (C75 p6 r6 h7) (.cons (At.acc (by kernel_rfl) rfl (fun _ => rfl)) (.nil _)) (.cons (Rn.any _ _ _ _ _ _ (Nat.le_of_ble_eq_true rfl) rfl rfl (by decide)) (.cons (Rn.func' .nil .nil) .nil)) (.flat (by kernel_rfl)) newflat_nil) [16, 18] [0] (a2 := (st 20 [(16, .bool false), (18, .bool r6)])) (h2 := [accB 27 (List.length p6) (List.flatMap e27 p6), .dead, .dead]) (by kernel_rfl) ?_
      refine TI.run 1 [19] [0] (a2 := (st 20 [(19, .bool r6)])) (h2 := [accB 27 (List.length p6) (List.flatMap e27 p6), .dead, .dead]) (by kernel_rfl) ?_
      refine TI.done (by kernel_rfl) ?_
      exact hK
    | false =>
      replace hm9 := of_neg hm9 rfl
      have hm9 := Option.some.inj hm9
      subst hm9
      refine TS.region' (id := 4) (b := false) (ops := c52.s2.s2.s1.s1.rops) (by kernel_rfl) rfl ?_
      refine TI.run 1 [2, 13] [0] (a2 := (st 20 [(2, .slice (some ⟨0, 0, none⟩) (List.length p6) ANY), (13, .agg ⟨[.int .i64 p4, .int .i64 p5]⟩)])) (h2 := [accB 27 (List.length p6) (List.flatMap e27 p6), .dead, .dead]) (by kernel_rfl) ?_
      refine TI.callM (g := 58) (args := [.agg ⟨[.int .i64 p4, .int .i64 p5]⟩, .int .i64 10000]) (v := .bool false) (new := []) (by kernel_rfl) (PureSim.any (C58 p4 p5 10000 false h5) (flatL (by kernel_rfl)) (by kernel_rfl) [accB 27 (List.length p6) (List.flatMap e27 p6), .dead, .dead]) [2, 14] [0] (a2 := (st 20 [(2, .slice (some ⟨0, 0, none⟩) (List.length p6) ANY), (14, .bool false)])) (h2 := [accB 27 (List.length p6) (List.flatMap e27 p6), .dead, .dead]) (by kernel_rfl) ?_
      refine TI.run 5 [19] [0] (a2 := (st 20 [(19, .bool true)])) (h2 := [accB 27 (List.length p6) (List.flatMap e27 p6), .dead, .dead]) (by kernel_rfl) ?_
      refine TI.done (by kernel_rfl) ?_
      exact hK
theorem C52 (p0 : Int) (p1 : Int) (p2 : Int) (p3 : Int) (p4 : Int) (p5 : Int) (p6 : (List (Int × Int))) (r : Int) (hF : F52 p0 p1 p2 p3 p4 p5 p6 = some r) : PureSim Try.prog 52 [.agg ⟨[.int .i64 p0, .int .i64 p1, .int .i64 p2, .int .i64 p3]⟩, .agg ⟨[.int .i64 p4, .int .i64 p5]⟩, .slice (some ⟨0, 0, none⟩) (List.length p6) ANY] [accB 27 (List.length p6) (List.flatMap e27 p6)] (V52 1 r) (N52 1 r) :=
  PureSim.of_Fin Try.func52 (c := c52) (by kernel_rfl) (by kernel_rfl) 1 rfl [0, 1, 2] [0] (by kernel_rfl) (B52 p0 p1 p2 p3 p4 p5 p6 r hF)

-- (agonic/magnet.Vector).plus
noncomputable def c53 : Code := Try.f53.code
def F53 (p0 : Int) (p1 : Int) (p2 : Int) (p3 : Int) (p4 : Int) : Option (Int × Int) :=
  some (w64 (p0 + (w64 (p2 * p3))), w64 (p1 + (w64 (p2 * p4))))
def V53 (b : Nat) (r : (Int × Int)) : Value := .agg ⟨[.int .i64 r.1, .int .i64 r.2]⟩
def N53 (b : Nat) (r : (Int × Int)) : List Blk := []
theorem B53 (p0 : Int) (p1 : Int) (p2 : Int) (p3 : Int) (p4 : Int) (r : (Int × Int)) (hF : F53 p0 p1 p2 p3 p4 = some r) : TS Try.prog 0 0 c53 (st 22 [(0, .agg ⟨[.int .i64 p0, .int .i64 p1]⟩), (1, .int .i64 p2), (2, .agg ⟨[.int .i64 p3, .int .i64 p4]⟩)]) [] (NX Try.prog 0 0 [] (FinP Try.prog Try.f53 0 (V53 0 r) (N53 0 r))) := by
  unfold F53 at hF
  refine TS.seq' (x := c53.s1) (y := c53.s2) (by kernel_rfl) ?_
  refine TS.region' (id := 0) (b := false) (ops := c53.s1.rops) (by kernel_rfl) rfl ?_
  refine TI.run 3 [1, 3, 5, 6] [0, 1, 2] (a2 := (st 22 [(1, .int .i64 p2), (3, .pointer (some ⟨0, 0, none⟩)), (5, .pointer (some ⟨1, 0, none⟩)), (6, .pointer (some ⟨2, 0, none⟩))])) (h2 := [.cells 23 [.int .i64 p0, .int .i64 p1], .cells 23 [.int .i64 p3, .int .i64 p4], .cells 23 [.int .i64 0, .int .i64 0]]) (by kernel_rfl) ?_
  refine TI.done (by kernel_rfl) ?_
  refine NX.sq ?_
  refine TS.seq' (x := c53.s2.s1) (y := c53.s2.s2) (by kernel_rfl) ?_
  refine TS.region' (id := 1) (b := false) (ops := c53.s2.s1.rops) (by kernel_rfl) rfl ?_
  refine TI.run 16 [6] [2] (a2 := (st 22 [(6, .pointer (some ⟨2, 0, none⟩))])) (h2 := [.dead, .dead, .cells 23 [.int .i64 (w64 (p0 + (w64 (p2 * p3)))), .int .i64 (w64 (p1 + (w64 (p2 * p4))))]]) (by kernel_rfl) ?_
  refine TI.done (by kernel_rfl) ?_
  refine NX.sq ?_
  refine TS.ret' (by kernel_rfl) ?_
  have hF := Option.some.inj hF
  subst hF
  exact ⟨.inr rfl, rfl, .agg ⟨[.int .i64 (w64 (p0 + (w64 (p2 * p3)))), .int .i64 (w64 (p1 + (w64 (p2 * p4))))]⟩, by kernel_rfl, WkV.flat0 (by kernel_rfl) (Nat.le_of_ble_eq_true rfl)⟩
theorem C53 (p0 : Int) (p1 : Int) (p2 : Int) (p3 : Int) (p4 : Int) (r : (Int × Int)) (hF : F53 p0 p1 p2 p3 p4 = some r) : PureSim Try.prog 53 [.agg ⟨[.int .i64 p0, .int .i64 p1]⟩, .int .i64 p2, .agg ⟨[.int .i64 p3, .int .i64 p4]⟩] [] (V53 0 r) (N53 0 r) :=
  PureSim.of_Fin Try.func53 (c := c53) (by kernel_rfl) (by kernel_rfl) 0 rfl [0, 1, 2] [] (by kernel_rfl) (B53 p0 p1 p2 p3 p4 r hF)

-- (agonic/magnet.Kit).pull
noncomputable def c54 : Code := Try.f54.code
def F54 (p0 : Int) (p1 : Int) (p2 : Int) (p3 : Int) (p4 : Int) (p5 : Int) : Option (Int × Int) :=
  F53 0 0 p4 p0 p1 >>= fun r1 =>
  F53 r1.1 r1.2 p5 p2 p3 >>= fun r3 =>
  some (r3.1, r3.2)
def V54 (b : Nat) (r : (Int × Int)) : Value := .agg ⟨[.int .i64 r.1, .int .i64 r.2]⟩
def N54 (b : Nat) (r : (Int × Int)) : List Blk := []
theorem B54 (p0 : Int) (p1 : Int) (p2 : Int) (p3 : Int) (p4 : Int) (p5 : Int) (r : (Int × Int)) (hF : F54 p0 p1 p2 p3 p4 p5 = some r) : TS Try.prog 0 0 c54 (st 16 [(0, .agg ⟨[.int .i64 p0, .int .i64 p1, .int .i64 p2, .int .i64 p3]⟩), (1, .agg ⟨[.int .i64 p4, .int .i64 p5]⟩)]) [] (NX Try.prog 0 0 [] (FinP Try.prog Try.f54 0 (V54 0 r) (N54 0 r))) := by
  unfold F54 at hF
  refine TS.seq' (x := c54.s1) (y := c54.s2) (by kernel_rfl) ?_
  refine TS.region' (id := 0) (b := false) (ops := c54.s1.rops) (by kernel_rfl) rfl ?_
  refine TI.run 3 [2, 3, 4] [0, 1, 2] (a2 := (st 16 [(2, .pointer (some ⟨0, 0, none⟩)), (3, .pointer (some ⟨1, 0, none⟩)), (4, .pointer (some ⟨2, 0, none⟩))])) (h2 := [.cells 25 [.int .i64 p0, .int .i64 p1, .int .i64 p2, .int .i64 p3], .cells 27 [.int .i64 p4, .int .i64 p5], .cells 23 [.int .i64 0, .int .i64 0]]) (by kernel_rfl) ?_
  refine TI.done (by kernel_rfl) ?_
  refine NX.sq ?_
  refine TS.seq' (x := c54.s2.s1) (y := c54.s2.s2) (by kernel_rfl) ?_
  have hX := of_do hF
  clear hF
  obtain ⟨r1, h2, hF⟩ := hX
  have hX := of_do hF
  clear hF
  obtain ⟨r3, h4, hF⟩ := hX
  have hT : ∀ e ∈ ([⟨53, [.agg ⟨[.int .i64 0, .int .i64 0]⟩, .int .i64 p4, .agg ⟨[.int .i64 p0, .int .i64 p1]⟩], [.cells 25 [.int .i64 p0, .int .i64 p1, .int .i64 p2, .int .i64 p3], .cells 27 [.int .i64 p4, .int .i64 p5], .cells 23 [.int .i64 0, .int .i64 0]], .agg ⟨[.int .i64 r1.1, .int .i64 r1.2]⟩, []⟩, ⟨53, [.agg ⟨[.int .i64 r1.1, .int .i64 r1.2]⟩, .int .i64 p5, .agg ⟨[.int .i64 p2, .int .i64 p3]⟩], [.cells 25 [.int .i64 p0, .int .i64 p1, .int .i64 p2, .int .i64 p3], .cells 27 [.int .i64 p4, .int .i64 p5], .cells 23 [.int .i64 0, .int .i64 0]], .agg ⟨[.int .i64 r3.1, .int .i64 r3.2]⟩, []⟩] : List Entry), PureSim Try.prog e.g e.args e.h e.v e.new := by
    intro e he
    simp only [List.mem_cons, List.not_mem_nil, or_false] at he
    rcases he with rfl | rfl
    · exact (PureSim.any (C53 0 0 p4 p0 p1 r1 h2) (flatL (by kernel_rfl)) (by kernel_rfl) [.cells 25 [.int .i64 p0, .int .i64 p1, .int .i64 p2, .int .i64 p3], .cells 27 [.int .i64 p4, .int .i64 p5], .cells 23 [.int .i64 0, .int .i64 0]])
    · exact (PureSim.any (C53 r1.1 r1.2 p5 p2 p3 r3 h4) (flatL (by kernel_rfl)) (by kernel_rfl) [.cells 25 [.int .i64 p0, .int .i64 p1, .int .i64 p2, .int .i64 p3], .cells 27 [.int .i64 p4, .int .i64 p5], .cells 23 [.int .i64 0, .int .i64 0]])
  refine TS.draw' (id := 1) (b := true) (ops := c54.s2.s1.rops) (fin := ({ act := (st 16 [(2, .pointer (some ⟨0, 0, none⟩)), (3, .pointer (some ⟨1, 0, none⟩)), (4, .pointer (some ⟨2, 0, none⟩)), (5, .agg ⟨[.int .i64 0, .int .i64 0]⟩), (6, .pointer (some ⟨1, 0, none⟩)), (7, .int .i64 p4), (8, .pointer (some ⟨0, 0, none⟩)), (9, .agg ⟨[.int .i64 p0, .int .i64 p1]⟩), (10, .agg ⟨[.int .i64 r1.1, .int .i64 r1.2]⟩), (11, .pointer (some ⟨1, 1, none⟩)), (12, .int .i64 p5), (13, .pointer (some ⟨0, 2, none⟩)), (14, .agg ⟨[.int .i64 p2, .int .i64 p3]⟩)]), heap := [.cells 25 [.int .i64 p0, .int .i64 p1, .int .i64 p2, .int .i64 p3], .cells 27 [.int .i64 p4, .int .i64 p5], .cells 23 [.int .i64 0, .int .i64 0]], own := [], upds := [] } : QSt)) (fin2 := ({ act := (st 16 [(2, .pointer (some ⟨0, 0, none⟩)), (3, .pointer (some ⟨1, 0, none⟩)), (4, .pointer (some ⟨2, 0, none⟩)), (5, .agg ⟨[.int .i64 0, .int .i64 0]⟩), (6, .pointer (some ⟨1, 0, none⟩)), (7, .int .i64 p4), (8, .pointer (some ⟨0, 0, none⟩)), (9, .agg ⟨[.int .i64 p0, .int .i64 p1]⟩), (10, .agg ⟨[.int .i64 r1.1, .int .i64 r1.2]⟩), (11, .pointer (some ⟨1, 1, none⟩)), (12, .int .i64 p5), (13, .pointer (some ⟨0, 2, none⟩)), (14, .agg ⟨[.int .i64 p2, .int .i64 p3]⟩)]), heap := [.cells 25 [.int .i64 p0, .int .i64 p1, .int .i64 p2, .int .i64 p3], .cells 27 [.int .i64 p4, .int .i64 p5], .cells 23 [.int .i64 0, .int .i64 0]], own := [], upds := [] } : QSt)) (a1 := (st 16 [(2, .pointer (some ⟨0, 0, none⟩)), (3, .pointer (some ⟨1, 0, none⟩)), (4, .pointer (some ⟨2, 0, none⟩)), (5, .agg ⟨[.int .i64 0, .int .i64 0]⟩), (6, .pointer (some ⟨1, 0, none⟩)), (7, .int .i64 p4), (8, .pointer (some ⟨0, 0, none⟩)), (9, .agg ⟨[.int .i64 p0, .int .i64 p1]⟩), (10, .agg ⟨[.int .i64 r1.1, .int .i64 r1.2]⟩), (11, .pointer (some ⟨1, 1, none⟩)), (12, .int .i64 p5), (13, .pointer (some ⟨0, 2, none⟩)), (14, .agg ⟨[.int .i64 p2, .int .i64 p3]⟩), (15, .agg ⟨[.int .i64 r3.1, .int .i64 r3.2]⟩)])) (h1 := [.cells 25 [.int .i64 p0, .int .i64 p1, .int .i64 p2, .int .i64 p3], .cells 27 [.int .i64 p4, .int .i64 p5], .cells 23 [.int .i64 r3.1, .int .i64 r3.2]]) (a2 := (st 16 [(4, .pointer (some ⟨2, 0, none⟩))])) (h2 := [.dead, .dead, .cells 23 [.int .i64 r3.1, .int .i64 r3.2]]) [⟨53, [.agg ⟨[.int .i64 0, .int .i64 0]⟩, .int .i64 p4, .agg ⟨[.int .i64 p0, .int .i64 p1]⟩], [.cells 25 [.int .i64 p0, .int .i64 p1, .int .i64 p2, .int .i64 p3], .cells 27 [.int .i64 p4, .int .i64 p5], .cells 23 [.int .i64 0, .int .i64 0]], .agg ⟨[.int .i64 r1.1, .int .i64 r1.2]⟩, []⟩, ⟨53, [.agg ⟨[.int .i64 r1.1, .int .i64 r1.2]⟩, .int .i64 p5, .agg ⟨[.int .i64 p2, .int .i64 p3]⟩], [.cells 25 [.int .i64 p0, .int .i64 p1, .int .i64 p2, .int .i64 p3], .cells 27 [.int .i64 p4, .int .i64 p5], .cells 23 [.int .i64 0, .int .i64 0]], .agg ⟨[.int .i64 r3.1, .int .i64 r3.2]⟩, []⟩] hT mixed (by kernel_rfl) rfl 10 (by kernel_rfl) [] ?_ rfl (.inl ⟨rfl, rfl⟩) ?_ [4] [2] (by kernel_rfl) ?_
  · refine QI.run (s1 := ({ act := (st 16 [(2, .pointer (some ⟨0, 0, none⟩)), (3, .pointer (some ⟨1, 0, none⟩)), (4, .pointer (some ⟨2, 0, none⟩)), (5, .agg ⟨[.int .i64 0, .int .i64 0]⟩), (6, .pointer (some ⟨1, 0, none⟩)), (7, .int .i64 p4), (8, .pointer (some ⟨0, 0, none⟩)), (9, .agg ⟨[.int .i64 p0, .int .i64 p1]⟩)]), heap := [.cells 25 [.int .i64 p0, .int .i64 p1, .int .i64 p2, .int .i64 p3], .cells 27 [.int .i64 p4, .int .i64 p5], .cells 23 [.int .i64 0, .int .i64 0]], own := [], upds := [] } : QSt)) 5 (by kernel_rfl) (by kernel_rfl) ?_
    refine QI.op (q := { val := .agg ⟨[.int .i64 r1.1, .int .i64 r1.2]⟩, new := [] }) (s1 := ({ act := (st 16 [(2, .pointer (some ⟨0, 0, none⟩)), (3, .pointer (some ⟨1, 0, none⟩)), (4, .pointer (some ⟨2, 0, none⟩)), (5, .agg ⟨[.int .i64 0, .int .i64 0]⟩), (6, .pointer (some ⟨1, 0, none⟩)), (7, .int .i64 p4), (8, .pointer (some ⟨0, 0, none⟩)), (9, .agg ⟨[.int .i64 p0, .int .i64 p1]⟩), (10, .agg ⟨[.int .i64 r1.1, .int .i64 r1.2]⟩)]), heap := [.cells 25 [.int .i64 p0, .int .i64 p1, .int .i64 p2, .int .i64 p3], .cells 27 [.int .i64 p4, .int .i64 p5], .cells 23 [.int .i64 0, .int .i64 0]], own := [], upds := [] } : QSt)) (by decide) (qOf_call (g := 53) (args := [.agg ⟨[.int .i64 0, .int .i64 0]⟩, .int .i64 p4, .agg ⟨[.int .i64 p0, .int .i64 p1]⟩]) (by kernel_rfl) lookC_hit) (by kernel_rfl) ?_
    refine QI.run (s1 := ({ act := (st 16 [(2, .pointer (some ⟨0, 0, none⟩)), (3, .pointer (some ⟨1, 0, none⟩)), (4, .pointer (some ⟨2, 0, none⟩)), (5, .agg ⟨[.int .i64 0, .int .i64 0]⟩), (6, .pointer (some ⟨1, 0, none⟩)), (7, .int .i64 p4), (8, .pointer (some ⟨0, 0, none⟩)), (9, .agg ⟨[.int .i64 p0, .int .i64 p1]⟩), (10, .agg ⟨[.int .i64 r1.1, .int .i64 r1.2]⟩), (11, .pointer (some ⟨1, 1, none⟩)), (12, .int .i64 p5), (13, .pointer (some ⟨0, 2, none⟩)), (14, .agg ⟨[.int .i64 p2, .int .i64 p3]⟩)]), heap := [.cells 25 [.int .i64 p0, .int .i64 p1, .int .i64 p2, .int .i64 p3], .cells 27 [.int .i64 p4, .int .i64 p5], .cells 23 [.int .i64 0, .int .i64 0]], own := [], upds := [] } : QSt)) 4 (by kernel_rfl) (by kernel_rfl) ?_
    exact QI.done (by kernel_rfl)
  · refine SI.op (q := { val := .agg ⟨[.int .i64 r3.1, .int .i64 r3.2]⟩, new := [] }) (a2 := (st 16 [(2, .pointer (some ⟨0, 0, none⟩)), (3, .pointer (some ⟨1, 0, none⟩)), (4, .pointer (some ⟨2, 0, none⟩)), (5, .agg ⟨[.int .i64 0, .int .i64 0]⟩), (6, .pointer (some ⟨1, 0, none⟩)), (7, .int .i64 p4), (8, .pointer (some ⟨0, 0, none⟩)), (9, .agg ⟨[.int .i64 p0, .int .i64 p1]⟩), (10, .agg ⟨[.int .i64 r1.1, .int .i64 r1.2]⟩), (11, .pointer (some ⟨1, 1, none⟩)), (12, .int .i64 p5), (13, .pointer (some ⟨0, 2, none⟩)), (14, .agg ⟨[.int .i64 p2, .int .i64 p3]⟩), (15, .agg ⟨[.int .i64 r3.1, .int .i64 r3.2]⟩)])) (h2 := [.cells 25 [.int .i64 p0, .int .i64 p1, .int .i64 p2, .int .i64 p3], .cells 27 [.int .i64 p4, .int .i64 p5], .cells 23 [.int .i64 0, .int .i64 0]]) (by kernel_rfl) (qOf_call (g := 53) (args := [.agg ⟨[.int .i64 r1.1, .int .i64 r1.2]⟩, .int .i64 p5, .agg ⟨[.int .i64 p2, .int .i64 p3]⟩]) (by kernel_rfl) (lookC_skip (by intro _ ha _; have hq := h2; have hi := h4; clear hF; first | (exfalso; simp at ha; done) | ((try simp at ha); have hr := Option.some.inj (hq.symm.trans (Eq.trans (by first | rfl | (congr 1 <;> first | rfl | omega | simp_all)) hi)); subst hr; rfl)) lookC_hit)) (by kernel_rfl) (by kernel_rfl) ?_
    refine SI.run (a2 := (st 16 [(2, .pointer (some ⟨0, 0, none⟩)), (3, .pointer (some ⟨1, 0, none⟩)), (4, .pointer (some ⟨2, 0, none⟩)), (5, .agg ⟨[.int .i64 0, .int .i64 0]⟩), (6, .pointer (some ⟨1, 0, none⟩)), (7, .int .i64 p4), (8, .pointer (some ⟨0, 0, none⟩)), (9, .agg ⟨[.int .i64 p0, .int .i64 p1]⟩), (10, .agg ⟨[.int .i64 r1.1, .int .i64 r1.2]⟩), (11, .pointer (some ⟨1, 1, none⟩)), (12, .int .i64 p5), (13, .pointer (some ⟨0, 2, none⟩)), (14, .agg ⟨[.int .i64 p2, .int .i64 p3]⟩), (15, .agg ⟨[.int .i64 r3.1, .int .i64 r3.2]⟩)])) (h2 := [.cells 25 [.int .i64 p0, .int .i64 p1, .int .i64 p2, .int .i64 p3], .cells 27 [.int .i64 p4, .int .i64 p5], .cells 23 [.int .i64 r3.1, .int .i64 r3.2]]) 1 (by kernel_rfl) ?_
    exact SI.done (by kernel_rfl)
  refine TS.ret' (by kernel_rfl) ?_
  have hF := Option.some.inj hF
  subst hF
  exact ⟨.inr rfl, rfl, .agg ⟨[.int .i64 r3.1, .int .i64 r3.2]⟩, by kernel_rfl, WkV.flat0 (by kernel_rfl) (Nat.le_of_ble_eq_true rfl)⟩
theorem C54 (p0 : Int) (p1 : Int) (p2 : Int) (p3 : Int) (p4 : Int) (p5 : Int) (r : (Int × Int)) (hF : F54 p0 p1 p2 p3 p4 p5 = some r) : PureSim Try.prog 54 [.agg ⟨[.int .i64 p0, .int .i64 p1, .int .i64 p2, .int .i64 p3]⟩, .agg ⟨[.int .i64 p4, .int .i64 p5]⟩] [] (V54 0 r) (N54 0 r) :=
  PureSim.of_Fin Try.func54 (c := c54) (by kernel_rfl) (by kernel_rfl) 0 rfl [0, 1] [] (by kernel_rfl) (B54 p0 p1 p2 p3 p4 p5 r hF)

-- agonic/magnet.Rest
noncomputable def c16 : Code := Try.f16.code
def F16 (p0 : Int) (p1 : Int) (p2 : Int) (p3 : Int) (p4 : Int) (p5 : Int) (p6 : Int) (p7 : Int) : Option ((Int × Int) × Int) :=
  F52 p0 p1 p2 p3 p4 p5 ([(p6, p7)]) >>= fun r1 =>
  if r1 != 0 then
    some ((0, 0), r1)
  else
    F54 p0 p1 p2 p3 p6 p7 >>= fun r4 =>
    F53 p4 p5 1 r4.1 r4.2 >>= fun r6 =>
    some ((r6.1, r6.2), 0)
def V16 (b : Nat) (r : ((Int × Int) × Int)) : Value := .tuple ⟨[.agg ⟨[.int .i64 r.1.1, .int .i64 r.1.2]⟩, .int .i64 r.2]⟩
def N16 (b : Nat) (r : ((Int × Int) × Int)) : List Blk := []
theorem B16 (p0 : Int) (p1 : Int) (p2 : Int) (p3 : Int) (p4 : Int) (p5 : Int) (p6 : Int) (p7 : Int) (r : ((Int × Int) × Int)) (hF : F16 p0 p1 p2 p3 p4 p5 p6 p7 = some r) : TS Try.prog 0 0 c16 (st 23 [(0, .agg ⟨[.int .i64 p0, .int .i64 p1, .int .i64 p2, .int .i64 p3]⟩), (1, .agg ⟨[.int .i64 p4, .int .i64 p5]⟩), (2, .agg ⟨[.int .i64 p6, .int .i64 p7]⟩)]) [] (NX Try.prog 0 0 [] (FinP Try.prog Try.f16 0 (V16 0 r) (N16 0 r))) := by
  unfold F16 at hF
  refine TS.seq' (x := c16.s1) (y := c16.s2) (by kernel_rfl) ?_
  refine TS.region' (id := 0) (b := false) (ops := c16.s1.rops) (by kernel_rfl) rfl ?_
  refine TI.run 5 [3, 4, 5, 6] [0, 1, 2, 3] (a2 := (st 23 [(3, .pointer (some ⟨0, 0, none⟩)), (4, .pointer (some ⟨1, 0, none⟩)), (5, .pointer (some ⟨2, 0, none⟩)), (6, .pointer (some ⟨3, 0, none⟩))])) (h2 := [.cells 25 [.int .i64 p0, .int .i64 p1, .int .i64 p2, .int .i64 p3], .cells 23 [.int .i64 p4, .int .i64 p5], .cells 27 [.int .i64 p6, .int .i64 p7], .cells 23 [.int .i64 0, .int .i64 0]]) (by kernel_rfl) ?_
  refine TI.done (by kernel_rfl) ?_
  refine NX.sq ?_
  refine TS.seq' (x := c16.s2.s1) (y := c16.s2.s2) (by kernel_rfl) ?_
  refine TS.seq' (x := c16.s2.s1.s1) (y := c16.s2.s1.s2) (by kernel_rfl) ?_
  have hX := of_do hF
  clear hF
  obtain ⟨r1, h2, hF⟩ := hX
  refine TS.region' (id := 1) (b := false) (ops := c16.s2.s1.s1.rops) (by kernel_rfl) rfl ?_
  refine TI.run 4 [3, 4, 5, 6, 9, 10, 12] [0, 1, 2, 3, 4] (a2 := (st 23 [(3, .pointer (some ⟨0, 0, none⟩)), (4, .pointer (some ⟨1, 0, none⟩)), (5, .pointer (some ⟨2, 0, none⟩)), (6, .pointer (some ⟨3, 0, none⟩)), (9, .agg ⟨[.int .i64 p0, .int .i64 p1, .int .i64 p2, .int .i64 p3]⟩), (10, .agg ⟨[.int .i64 p4, .int .i64 p5]⟩), (12, .slice (some ⟨4, 0, none⟩) 1 1)])) (h2 := [.cells 25 [.int .i64 p0, .int .i64 p1, .int .i64 p2, .int .i64 p3], .cells 23 [.int .i64 p4, .int .i64 p5], .cells 27 [.int .i64 p6, .int .i64 p7], .cells 23 [.int .i64 0, .int .i64 0], .cells 27 [.int .i64 p6, .int .i64 p7]]) (by kernel_rfl) ?_
  refine TI.callM (g := 52) (args := [.agg ⟨[.int .i64 p0, .int .i64 p1, .int .i64 p2, .int .i64 p3]⟩, .agg ⟨[.int .i64 p4, .int .i64 p5]⟩, .slice (some ⟨4, 0, none⟩) 1 1]) (v := .int .i64 r1) (new := []) (by kernel_rfl) (PureSim.ren (hc := [accB 27 (List.length ([(p6, p7)])) (List.flatMap e27 ([(p6, p7)]))]) (fun i => List.getD [(4, 0)] i (0, 0)) (C52 p0 p1 p2 p3 p4 p5 ([(p6, p7)]) r1 h2) (.cons (At.accU (by kernel_rfl) rfl (fun _ => rfl)) (.nil _)) (.cons (.flat (by kernel_rfl)) (.cons (.flat (by kernel_rfl)) (.cons (Rn.any _ _ _ _ _ _ (Nat.le_of_ble_eq_true rfl) rfl rfl (by decide)) .nil))) (.flat (by kernel_rfl)) newflat_nil) [3, 4, 5, 6, 13] [0, 1, 2, 3] (a2 := (st 23 [(3, .pointer (some ⟨0, 0, none⟩)), (4, .pointer (some ⟨1, 0, none⟩)), (5, .pointer (some ⟨2, 0, none⟩)), (6, .pointer (some ⟨3, 0, none⟩)), (13, .int .i64 r1)])) (h2 := [.cells 25 [.int .i64 p0, .int .i64 p1, .int .i64 p2, .int .i64 p3], .cells 23 [.int .i64 p4, .int .i64 p5], .cells 27 [.int .i64 p6, .int .i64 p7], .cells 23 [.int .i64 0, .int .i64 0], .dead]) (by kernel_rfl) ?_
  refine TI.run 1 [3, 4, 5, 6, 8] [0, 1, 2, 3] (a2 := (st 23 [(3, .pointer (some ⟨0, 0, none⟩)), (4, .pointer (some ⟨1, 0, none⟩)), (5, .pointer (some ⟨2, 0, none⟩)), (6, .pointer (some ⟨3, 0, none⟩)), (8, .int .i64 r1)])) (h2 := [.cells 25 [.int .i64 p0, .int .i64 p1, .int .i64 p2, .int .i64 p3], .cells 23 [.int .i64 p4, .int .i64 p5], .cells 27 [.int .i64 p6, .int .i64 p7], .cells 23 [.int .i64 0, .int .i64 0], .dead]) (by kernel_rfl) ?_
  refine TI.done (by kernel_rfl) ?_
  refine NX.sq ?_
  refine TS.seq' (x := c16.s2.s1.s2.s1) (y := c16.s2.s1.s2.s2) (by kernel_rfl) ?_
  refine TS.region' (id := 2) (b := false) (ops := c16.s2.s1.s2.s1.rops) (by kernel_rfl) rfl ?_
  refine TI.run 2 [3, 4, 5, 6, 8, 15] [0, 1, 2, 3] (a2 := (st 23 [(3, .pointer (some ⟨0, 0, none⟩)), (4, .pointer (some ⟨1, 0, none⟩)), (5, .pointer (some ⟨2, 0, none⟩)), (6, .pointer (some ⟨3, 0, none⟩)), (8, .int .i64 r1), (15, .bool (r1 != 0))])) (h2 := [.cells 25 [.int .i64 p0, .int .i64 p1, .int .i64 p2, .int .i64 p3], .cells 23 [.int .i64 p4, .int .i64 p5], .cells 27 [.int .i64 p6, .int .i64 p7], .cells 23 [.int .i64 0, .int .i64 0], .dead]) (by kernel_rfl) ?_
  refine TI.done (by kernel_rfl) ?_
  refine NX.sq ?_
  refine TS.cond' (o := (.tmp 15)) (x := c16.s2.s1.s2.s2.th) (y := c16.s2.s1.s2.s2.el) (b := r1 != 0) (by kernel_rfl) (by kernel_rfl) (fun hc3 => ?_) (fun hc3 => ?_)
  · replace hF := of_pos hF hc3
    refine TS.seq' (x := c16.s2.s1.s2.s2.th.s1) (y := c16.s2.s1.s2.s2.th.s2) (by kernel_rfl) ?_
    refine TS.region' (id := 3) (b := false) (ops := c16.s2.s1.s2.s2.th.s1.rops) (by kernel_rfl) rfl ?_
    refine TI.run 4 [6, 7] [3] (a2 := (st 23 [(6, .pointer (some ⟨3, 0, none⟩)), (7, .int .i64 r1)])) (h2 := [.dead, .dead, .dead, .cells 23 [.int .i64 0, .int .i64 0], .dead]) (by kernel_rfl) ?_
    refine TI.done (by kernel_rfl) ?_
    refine NX.sq ?_
    refine TS.ret' (by kernel_rfl) ?_
    refine NX.sqR ?_
    have hF := Option.some.inj hF
    subst hF
    exact ⟨.inr rfl, rfl, .tuple ⟨[.agg ⟨[.int .i64 0, .int .i64 0]⟩, .int .i64 r1]⟩, by kernel_rfl, WkV.flat0 (by kernel_rfl) (Nat.le_of_ble_eq_true rfl)⟩
  · replace hF := of_neg hF hc3
    refine TS.skip' (by kernel_rfl) ?_
    refine NX.sq ?_
    refine TS.seq' (x := c16.s2.s2.s1) (y := c16.s2.s2.s2) (by kernel_rfl) ?_
    have hX := of_do hF
    clear hF
    obtain ⟨r4, h5, hF⟩ := hX
    have hX := of_do hF
    clear hF
    obtain ⟨r6, h7, hF⟩ := hX
    have hT : ∀ e ∈ ([⟨54, [.agg ⟨[.int .i64 p0, .int .i64 p1, .int .i64 p2, .int .i64 p3]⟩, .agg ⟨[.int .i64 p6, .int .i64 p7]⟩], [.cells 25 [.int .i64 p0, .int .i64 p1, .int .i64 p2, .int .i64 p3], .cells 23 [.int .i64 p4, .int .i64 p5], .cells 27 [.int .i64 p6, .int .i64 p7], .cells 23 [.int .i64 0, .int .i64 0], .dead], .agg ⟨[.int .i64 r4.1, .int .i64 r4.2]⟩, []⟩, ⟨53, [.agg ⟨[.int .i64 p4, .int .i64 p5]⟩, .int .i64 1, .agg ⟨[.int .i64 r4.1, .int .i64 r4.2]⟩], [.cells 25 [.int .i64 p0, .int .i64 p1, .int .i64 p2, .int .i64 p3], .cells 23 [.int .i64 p4, .int .i64 p5], .cells 27 [.int .i64 p6, .int .i64 p7], .cells 23 [.int .i64 0, .int .i64 0], .dead], .agg ⟨[.int .i64 r6.1, .int .i64 r6.2]⟩, []⟩] : List Entry), PureSim Try.prog e.g e.args e.h e.v e.new := by
      intro e he
      simp only [List.mem_cons, List.not_mem_nil, or_false] at he
      rcases he with rfl | rfl
      · exact (PureSim.any (C54 p0 p1 p2 p3 p6 p7 r4 h5) (flatL (by kernel_rfl)) (by kernel_rfl) [.cells 25 [.int .i64 p0, .int .i64 p1, .int .i64 p2, .int .i64 p3], .cells 23 [.int .i64 p4, .int .i64 p5], .cells 27 [.int .i64 p6, .int .i64 p7], .cells 23 [.int .i64 0, .int .i64 0], .dead])
      · exact (PureSim.any (C53 p4 p5 1 r4.1 r4.2 r6 h7) (flatL (by kernel_rfl)) (by kernel_rfl) [.cells 25 [.int .i64 p0, .int .i64 p1, .int .i64 p2, .int .i64 p3], .cells 23 [.int .i64 p4, .int .i64 p5], .cells 27 [.int .i64 p6, .int .i64 p7], .cells 23 [.int .i64 0, .int .i64 0], .dead])
    refine TS.draw' (id := 4) (b := true) (ops := c16.s2.s2.s1.rops) (fin := ({ act := (st 23 [(3, .pointer (some ⟨0, 0, none⟩)), (4, .pointer (some ⟨1, 0, none⟩)), (5, .pointer (some ⟨2, 0, none⟩)), (6, .pointer (some ⟨3, 0, none⟩)), (8, .int .i64 r1), (15, .bool (r1 != 0)), (18, .agg ⟨[.int .i64 p4, .int .i64 p5]⟩), (19, .agg ⟨[.int .i64 p0, .int .i64 p1, .int .i64 p2, .int .i64 p3]⟩), (20, .agg ⟨[.int .i64 p6, .int .i64 p7]⟩), (21, .agg ⟨[.int .i64 r4.1, .int .i64 r4.2]⟩)]), heap := [.cells 25 [.int .i64 p0, .int .i64 p1, .int .i64 p2, .int .i64 p3], .cells 23 [.int .i64 p4, .int .i64 p5], .cells 27 [.int .i64 p6, .int .i64 p7], .cells 23 [.int .i64 0, .int .i64 0], .dead], own := [], upds := [] } : QSt)) (fin2 := ({ act := (st 23 [(3, .pointer (some ⟨0, 0, none⟩)), (4, .pointer (some ⟨1, 0, none⟩)), (5, .pointer (some ⟨2, 0, none⟩)), (6, .pointer (some ⟨3, 0, none⟩)), (8, .int .i64 r1), (15, .bool (r1 != 0)), (18, .agg ⟨[.int .i64 p4, .int .i64 p5]⟩), (19, .agg ⟨[.int .i64 p0, .int .i64 p1, .int .i64 p2, .int .i64 p3]⟩), (20, .agg ⟨[.int .i64 p6, .int .i64 p7]⟩), (21, .agg ⟨[.int .i64 r4.1, .int .i64 r4.2]⟩)]), heap := [.cells 25 [.int .i64 p0, .int .i64 p1, .int .i64 p2, .int .i64 p3], .cells 23 [.int .i64 p4, .int .i64 p5], .cells 27 [.int .i64 p6, .int .i64 p7], .cells 23 [.int .i64 0, .int .i64 0], .dead], own := [], upds := [] } : QSt)) (a1 := (st 23 [(3, .pointer (some ⟨0, 0, none⟩)), (4, .pointer (some ⟨1, 0, none⟩)), (5, .pointer (some ⟨2, 0, none⟩)), (6, .pointer (some ⟨3, 0, none⟩)), (7, .int .i64 0), (8, .int .i64 r1), (15, .bool (r1 != 0)), (18, .agg ⟨[.int .i64 p4, .int .i64 p5]⟩), (19, .agg ⟨[.int .i64 p0, .int .i64 p1, .int .i64 p2, .int .i64 p3]⟩), (20, .agg ⟨[.int .i64 p6, .int .i64 p7]⟩), (21, .agg ⟨[.int .i64 r4.1, .int .i64 r4.2]⟩), (22, .agg ⟨[.int .i64 r6.1, .int .i64 r6.2]⟩)])) (h1 := [.cells 25 [.int .i64 p0, .int .i64 p1, .int .i64 p2, .int .i64 p3], .cells 23 [.int .i64 p4, .int .i64 p5], .cells 27 [.int .i64 p6, .int .i64 p7], .cells 23 [.int .i64 r6.1, .int .i64 r6.2], .dead]) (a2 := (st 23 [(6, .pointer (some ⟨3, 0, none⟩)), (7, .int .i64 0)])) (h2 := [.dead, .dead, .dead, .cells 23 [.int .i64 r6.1, .int .i64 r6.2], .dead]) [⟨54, [.agg ⟨[.int .i64 p0, .int .i64 p1, .int .i64 p2, .int .i64 p3]⟩, .agg ⟨[.int .i64 p6, .int .i64 p7]⟩], [.cells 25 [.int .i64 p0, .int .i64 p1, .int .i64 p2, .int .i64 p3], .cells 23 [.int .i64 p4, .int .i64 p5], .cells 27 [.int .i64 p6, .int .i64 p7], .cells 23 [.int .i64 0, .int .i64 0], .dead], .agg ⟨[.int .i64 r4.1, .int .i64 r4.2]⟩, []⟩, ⟨53, [.agg ⟨[.int .i64 p4, .int .i64 p5]⟩, .int .i64 1, .agg ⟨[.int .i64 r4.1, .int .i64 r4.2]⟩], [.cells 25 [.int .i64 p0, .int .i64 p1, .int .i64 p2, .int .i64 p3], .cells 23 [.int .i64 p4, .int .i64 p5], .cells 27 [.int .i64 p6, .int .i64 p7], .cells 23 [.int .i64 0, .int .i64 0], .dead], .agg ⟨[.int .i64 r6.1, .int .i64 r6.2]⟩, []⟩] hT mixed (by kernel_rfl) rfl 4 (by kernel_rfl) [] ?_ rfl (.inl ⟨rfl, rfl⟩) ?_ [6, 7] [3] (by kernel_rfl) ?_
    · refine QI.run (s1 := ({ act := (st 23 [(3, .pointer (some ⟨0, 0, none⟩)), (4, .pointer (some ⟨1, 0, none⟩)), (5, .pointer (some ⟨2, 0, none⟩)), (6, .pointer (some ⟨3, 0, none⟩)), (8, .int .i64 r1), (15, .bool (r1 != 0)), (18, .agg ⟨[.int .i64 p4, .int .i64 p5]⟩), (19, .agg ⟨[.int .i64 p0, .int .i64 p1, .int .i64 p2, .int .i64 p3]⟩), (20, .agg ⟨[.int .i64 p6, .int .i64 p7]⟩)]), heap := [.cells 25 [.int .i64 p0, .int .i64 p1, .int .i64 p2, .int .i64 p3], .cells 23 [.int .i64 p4, .int .i64 p5], .cells 27 [.int .i64 p6, .int .i64 p7], .cells 23 [.int .i64 0, .int .i64 0], .dead], own := [], upds := [] } : QSt)) 3 (by kernel_rfl) (by kernel_rfl) ?_
      refine QI.op (q := { val := .agg ⟨[.int .i64 r4.1, .int .i64 r4.2]⟩, new := [] }) (s1 := ({ act := (st 23 [(3, .pointer (some ⟨0, 0, none⟩)), (4, .pointer (some ⟨1, 0, none⟩)), (5, .pointer (some ⟨2, 0, none⟩)), (6, .pointer (some ⟨3, 0, none⟩)), (8, .int .i64 r1), (15, .bool (r1 != 0)), (18, .agg ⟨[.int .i64 p4, .int .i64 p5]⟩), (19, .agg ⟨[.int .i64 p0, .int .i64 p1, .int .i64 p2, .int .i64 p3]⟩), (20, .agg ⟨[.int .i64 p6, .int .i64 p7]⟩), (21, .agg ⟨[.int .i64 r4.1, .int .i64 r4.2]⟩)]), heap := [.cells 25 [.int .i64 p0, .int .i64 p1, .int .i64 p2, .int .i64 p3], .cells 23 [.int .i64 p4, .int .i64 p5], .cells 27 [.int .i64 p6, .int .i64 p7], .cells 23 [.int .i64 0, .int .i64 0], .dead], own := [], upds := [] } : QSt)) (by decide) (qOf_call (g := 54) (args := [.agg ⟨[.int .i64 p0, .int .i64 p1, .int .i64 p2, .int .i64 p3]⟩, .agg ⟨[.int .i64 p6, .int .i64 p7]⟩]) (by kernel_rfl) lookC_hit) (by kernel_rfl) ?_
      exact QI.done (by kernel_rfl)
    · refine SI.op (q := { val := .agg ⟨[.int .i64 r6.1, .int .i64 r6.2]⟩, new := [] }) (a2 := (st 23 [(3, .pointer (some ⟨0, 0, none⟩)), (4, .pointer (some ⟨1, 0, none⟩)), (5, .pointer (some ⟨2, 0, none⟩)), (6, .pointer (some ⟨3, 0, none⟩)), (8, .int .i64 r1), (15, .bool (r1 != 0)), (18, .agg ⟨[.int .i64 p4, .int .i64 p5]⟩), (19, .agg ⟨[.int .i64 p0, .int .i64 p1, .int .i64 p2, .int .i64 p3]⟩), (20, .agg ⟨[.int .i64 p6, .int .i64 p7]⟩), (21, .agg ⟨[.int .i64 r4.1, .int .i64 r4.2]⟩), (22, .agg ⟨[.int .i64 r6.1, .int .i64 r6.2]⟩)])) (h2 := [.cells 25 [.int .i64 p0, .int .i64 p1, .int .i64 p2, .int .i64 p3], .cells 23 [.int .i64 p4, .int .i64 p5], .cells 27 [.int .i64 p6, .int .i64 p7], .cells 23 [.int .i64 0, .int .i64 0], .dead]) (by kernel_rfl) (qOf_call (g := 53) (args := [.agg ⟨[.int .i64 p4, .int .i64 p5]⟩, .int .i64 1, .agg ⟨[.int .i64 r4.1, .int .i64 r4.2]⟩]) (by kernel_rfl) (lookC_skip (fun hg => absurd (show (54 : Nat) = 53 from hg) (by decide)) lookC_hit)) (by kernel_rfl) (by kernel_rfl) ?_
      refine SI.run (a2 := (st 23 [(3, .pointer (some ⟨0, 0, none⟩)), (4, .pointer (some ⟨1, 0, none⟩)), (5, .pointer (some ⟨2, 0, none⟩)), (6, .pointer (some ⟨3, 0, none⟩)), (7, .int .i64 0), (8, .int .i64 r1), (15, .bool (r1 != 0)), (18, .agg ⟨[.int .i64 p4, .int .i64 p5]⟩), (19, .agg ⟨[.int .i64 p0, .int .i64 p1, .int .i64 p2, .int .i64 p3]⟩), (20, .agg ⟨[.int .i64 p6, .int .i64 p7]⟩), (21, .agg ⟨[.int .i64 r4.1, .int .i64 r4.2]⟩), (22, .agg ⟨[.int .i64 r6.1, .int .i64 r6.2]⟩)])) (h2 := [.cells 25 [.int .i64 p0, .int .i64 p1, .int .i64 p2, .int .i64 p3], .cells 23 [.int .i64 p4, .int .i64 p5], .cells 27 [.int .i64 p6, .int .i64 p7], .cells 23 [.int .i64 r6.1, .int .i64 r6.2], .dead]) 2 (by kernel_rfl) ?_
      exact SI.done (by kernel_rfl)
    refine TS.ret' (by kernel_rfl) ?_
    have hF := Option.some.inj hF
    subst hF
    exact ⟨.inr rfl, rfl, .tuple ⟨[.agg ⟨[.int .i64 r6.1, .int .i64 r6.2]⟩, .int .i64 0]⟩, by kernel_rfl, WkV.flat0 (by kernel_rfl) (Nat.le_of_ble_eq_true rfl)⟩
theorem C16 (p0 : Int) (p1 : Int) (p2 : Int) (p3 : Int) (p4 : Int) (p5 : Int) (p6 : Int) (p7 : Int) (r : ((Int × Int) × Int)) (hF : F16 p0 p1 p2 p3 p4 p5 p6 p7 = some r) : PureSim Try.prog 16 [.agg ⟨[.int .i64 p0, .int .i64 p1, .int .i64 p2, .int .i64 p3]⟩, .agg ⟨[.int .i64 p4, .int .i64 p5]⟩, .agg ⟨[.int .i64 p6, .int .i64 p7]⟩] [] (V16 0 r) (N16 0 r) :=
  PureSim.of_Fin Try.func16 (c := c16) (by kernel_rfl) (by kernel_rfl) 0 rfl [0, 1, 2] [] (by kernel_rfl) (B16 p0 p1 p2 p3 p4 p5 p6 p7 r hF)

-- agonic/agoniclaw06.placed
noncomputable def c18 : Code := Try.f18.code
def F18 (p0 : Int) (p1 : Int) : Option (Int × Int) :=
  some (p0, p1)
def V18 (b : Nat) (r : (Int × Int)) : Value := .agg ⟨[.int .i64 r.1, .int .i64 r.2]⟩
def N18 (b : Nat) (r : (Int × Int)) : List Blk := []
theorem B18 (p0 : Int) (p1 : Int) (r : (Int × Int)) (hF : F18 p0 p1 = some r) : TS Try.prog 0 0 c18 (st 4 [(0, .agg ⟨[.int .i64 p0, .int .i64 p1]⟩)]) [] (NX Try.prog 0 0 [] (FinP Try.prog Try.f18 0 (V18 0 r) (N18 0 r))) := by
  unfold F18 at hF
  refine TS.seq' (x := c18.s1) (y := c18.s2) (by kernel_rfl) ?_
  refine TS.region' (id := 0) (b := false) (ops := c18.s1.rops) (by kernel_rfl) rfl ?_
  refine TI.run 2 [1, 2] [0, 1] (a2 := (st 4 [(1, .pointer (some ⟨0, 0, none⟩)), (2, .pointer (some ⟨1, 0, none⟩))])) (h2 := [.cells 23 [.int .i64 p0, .int .i64 p1], .cells 28 [.int .i64 0, .int .i64 0]]) (by kernel_rfl) ?_
  refine TI.done (by kernel_rfl) ?_
  refine NX.sq ?_
  refine TS.seq' (x := c18.s2.s1) (y := c18.s2.s2) (by kernel_rfl) ?_
  refine TS.region' (id := 1) (b := false) (ops := c18.s2.s1.rops) (by kernel_rfl) rfl ?_
  refine TI.run 2 [2] [1] (a2 := (st 4 [(2, .pointer (some ⟨1, 0, none⟩))])) (h2 := [.dead, .cells 28 [.int .i64 p0, .int .i64 p1]]) (by kernel_rfl) ?_
  refine TI.done (by kernel_rfl) ?_
  refine NX.sq ?_
  refine TS.ret' (by kernel_rfl) ?_
  have hF := Option.some.inj hF
  subst hF
  exact ⟨.inr rfl, rfl, .agg ⟨[.int .i64 p0, .int .i64 p1]⟩, by kernel_rfl, WkV.flat0 (by kernel_rfl) (Nat.le_of_ble_eq_true rfl)⟩
theorem C18 (p0 : Int) (p1 : Int) (r : (Int × Int)) (hF : F18 p0 p1 = some r) : PureSim Try.prog 18 [.agg ⟨[.int .i64 p0, .int .i64 p1]⟩] [] (V18 0 r) (N18 0 r) :=
  PureSim.of_Fin Try.func18 (c := c18) (by kernel_rfl) (by kernel_rfl) 0 rfl [0] [] (by kernel_rfl) (B18 p0 p1 r hF)

-- agonic/agoniclaw06.chosen
noncomputable def c19 : Code := Try.f19.code
def F19 (p0 : Int) (p1 : Int) : Option (Int × Int) :=
  some (p0, p1)
def V19 (b : Nat) (r : (Int × Int)) : Value := .agg ⟨[.int .i64 r.1, .int .i64 r.2]⟩
def N19 (b : Nat) (r : (Int × Int)) : List Blk := []
theorem B19 (p0 : Int) (p1 : Int) (r : (Int × Int)) (hF : F19 p0 p1 = some r) : TS Try.prog 0 0 c19 (st 4 [(0, .agg ⟨[.int .i64 p0, .int .i64 p1]⟩)]) [] (NX Try.prog 0 0 [] (FinP Try.prog Try.f19 0 (V19 0 r) (N19 0 r))) := by
  unfold F19 at hF
  refine TS.seq' (x := c19.s1) (y := c19.s2) (by kernel_rfl) ?_
  refine TS.region' (id := 0) (b := false) (ops := c19.s1.rops) (by kernel_rfl) rfl ?_
  refine TI.run 2 [1, 2] [0, 1] (a2 := (st 4 [(1, .pointer (some ⟨0, 0, none⟩)), (2, .pointer (some ⟨1, 0, none⟩))])) (h2 := [.cells 27 [.int .i64 p0, .int .i64 p1], .cells 41 [.int .i64 0, .int .i64 0]]) (by kernel_rfl) ?_
  refine TI.done (by kernel_rfl) ?_
  refine NX.sq ?_
  refine TS.seq' (x := c19.s2.s1) (y := c19.s2.s2) (by kernel_rfl) ?_
  refine TS.region' (id := 1) (b := false) (ops := c19.s2.s1.rops) (by kernel_rfl) rfl ?_
  refine TI.run 2 [2] [1] (a2 := (st 4 [(2, .pointer (some ⟨1, 0, none⟩))])) (h2 := [.dead, .cells 41 [.int .i64 p0, .int .i64 p1]]) (by kernel_rfl) ?_
  refine TI.done (by kernel_rfl) ?_
  refine NX.sq ?_
  refine TS.ret' (by kernel_rfl) ?_
  have hF := Option.some.inj hF
  subst hF
  exact ⟨.inr rfl, rfl, .agg ⟨[.int .i64 p0, .int .i64 p1]⟩, by kernel_rfl, WkV.flat0 (by kernel_rfl) (Nat.le_of_ble_eq_true rfl)⟩
theorem C19 (p0 : Int) (p1 : Int) (r : (Int × Int)) (hF : F19 p0 p1 = some r) : PureSim Try.prog 19 [.agg ⟨[.int .i64 p0, .int .i64 p1]⟩] [] (V19 0 r) (N19 0 r) :=
  PureSim.of_Fin Try.func19 (c := c19) (by kernel_rfl) (by kernel_rfl) 0 rfl [0] [] (by kernel_rfl) (B19 p0 p1 r hF)

-- agonic/agonicref06.small
noncomputable def c56 : Code := Try.f56.code
def F56 (p0 : Int) (p1 : Int) : Option Bool :=
  F73 p0 (-100000000) 100000000 >>= fun r1 =>
  (
    if r1 then
      F73 p1 (-100000000) 100000000 >>= fun r3 =>
      some (r3)
    else
      some (false)
  : Option Bool) >>= fun m5 =>
  some m5
def V56 (b : Nat) (r : Bool) : Value := .bool r
def N56 (b : Nat) (r : Bool) : List Blk := []
theorem B56 (p0 : Int) (p1 : Int) (r : Bool) (hF : F56 p0 p1 = some r) : TS Try.prog 0 0 c56 (st 11 [(0, .agg ⟨[.int .i64 p0, .int .i64 p1]⟩)]) [] (NX Try.prog 0 0 [] (FinP Try.prog Try.f56 0 (V56 0 r) (N56 0 r))) := by
  unfold F56 at hF
  refine TS.seq' (x := c56.s1) (y := c56.s2) (by kernel_rfl) ?_
  refine TS.region' (id := 0) (b := false) (ops := c56.s1.rops) (by kernel_rfl) rfl ?_
  refine TI.run 2 [1] [0] (a2 := (st 11 [(1, .pointer (some ⟨0, 0, none⟩))])) (h2 := [.cells 41 [.int .i64 p0, .int .i64 p1]]) (by kernel_rfl) ?_
  refine TI.done (by kernel_rfl) ?_
  refine NX.sq ?_
  refine TS.seq' (x := c56.s2.s1) (y := c56.s2.s2) (by kernel_rfl) ?_
  have hX := of_do hF
  clear hF
  obtain ⟨r1, h2, hF⟩ := hX
  have hX := of_do hF
  clear hF
  obtain ⟨m5, hm6, hF⟩ := hX
  have hK : NX Try.prog 0 0 [.sq c56.s2.s2] (FinP Try.prog Try.f56 0 (V56 0 r) (N56 0 r)) .normal (st 11 [(2, .bool m5)]) [.dead] := by
    refine NX.sq ?_
    refine TS.ret' (by kernel_rfl) ?_
    have hF := Option.some.inj hF
    subst hF
    exact ⟨.inr rfl, rfl, .bool m5, by kernel_rfl, WkV.flat0 (by kernel_rfl) (Nat.le_of_ble_eq_true rfl)⟩
  cases r1 with
  | true =>
    replace hm6 := of_pos hm6 rfl
    have hX := of_do hm6
    clear hm6
    obtain ⟨r3, h4, hm6⟩ := hX
    have hm6 := Option.some.inj hm6
    subst hm6
    refine TS.region' (id := 1) (b := false) (ops := c56.s2.s1.rops) (by kernel_rfl) rfl ?_
    refine TI.run 2 [1, 4] [0] (a2 := (st 11 [(1, .pointer (some ⟨0, 0, none⟩)), (4, .int .i64 p0)])) (h2 := [.cells 41 [.int .i64 p0, .int .i64 p1]]) (by kernel_rfl) ?_
    refine TI.callM (g := 73) (args := [.int .i64 p0, .int .i64 (-100000000), .int .i64 100000000]) (v := .bool true) (new := []) (by kernel_rfl) (PureSim.any (C73 p0 (-100000000) 100000000 true h2) (flatL (by kernel_rfl)) (by kernel_rfl) [.cells 41 [.int .i64 p0, .int .i64 p1]]) [1, 5] [0] (a2 := (st 11 [(1, .pointer (some ⟨0, 0, none⟩)), (5, .bool true)])) (h2 := [.cells 41 [.int .i64 p0, .int .i64 p1]]) (by kernel_rfl) ?_
    refine TI.run 3 [6, 8] [] (a2 := (st 11 [(6, .bool true), (8, .int .i64 p1)])) (h2 := [.dead]) (by kernel_rfl) ?_
    refine TI.callM (g := 73) (args := [.int .i64 p1, .int .i64 (-100000000), .int .i64 100000000]) (v := .bool r3) (new := []) (by kernel_rfl) (PureSim.any (C73 p1 (-100000000) 100000000 r3 h4) (flatL (by kernel_rfl)) (by kernel_rfl) [.dead]) [6, 9] [] (a2 := (st 11 [(6, .bool true), (9, .bool r3)])) (h2 := [.dead]) (by kernel_rfl) ?_
    refine TI.run 2 [2] [] (a2 := (st 11 [(2, .bool r3)])) (h2 := [.dead]) (by kernel_rfl) ?_
    refine TI.done (by kernel_rfl) ?_
    exact hK
  | false =>
    replace hm6 := of_neg hm6 rfl
    have hm6 := Option.some.inj hm6
    subst hm6
    refine TS.region' (id := 1) (b := false) (ops := c56.s2.s1.rops) (by kernel_rfl) rfl ?_
    refine TI.run 2 [1, 4] [0] (a2 := (st 11 [(1, .pointer (some ⟨0, 0, none⟩)), (4, .int .i64 p0)])) (h2 := [.cells 41 [.int .i64 p0, .int .i64 p1]]) (by kernel_rfl) ?_
    refine TI.callM (g := 73) (args := [.int .i64 p0, .int .i64 (-100000000), .int .i64 100000000]) (v := .bool false) (new := []) (by kernel_rfl) (PureSim.any (C73 p0 (-100000000) 100000000 false h2) (flatL (by kernel_rfl)) (by kernel_rfl) [.cells 41 [.int .i64 p0, .int .i64 p1]]) [1, 5] [0] (a2 := (st 11 [(1, .pointer (some ⟨0, 0, none⟩)), (5, .bool false)])) (h2 := [.cells 41 [.int .i64 p0, .int .i64 p1]]) (by kernel_rfl) ?_
    refine TI.run 6 [2] [] (a2 := (st 11 [(2, .bool false)])) (h2 := [.dead]) (by kernel_rfl) ?_
    refine TI.done (by kernel_rfl) ?_
    exact hK
theorem C56 (p0 : Int) (p1 : Int) (r : Bool) (hF : F56 p0 p1 = some r) : PureSim Try.prog 56 [.agg ⟨[.int .i64 p0, .int .i64 p1]⟩] [] (V56 0 r) (N56 0 r) :=
  PureSim.of_Fin Try.func56 (c := c56) (by kernel_rfl) (by kernel_rfl) 0 rfl [0] [] (by kernel_rfl) (B56 p0 p1 r hF)

-- agonic/agonicref06.pull
noncomputable def c57 : Code := Try.f57.code
def F57 (p0 : Int) (p1 : Int) (p2 : Int) (p3 : Int) (p4 : Int) (p5 : Int) : Option (Int × Int) :=
  some (w64 ((w64 (p4 * p0)) + (w64 (p5 * p2))), w64 ((w64 (p4 * p1)) + (w64 (p5 * p3))))
def V57 (b : Nat) (r : (Int × Int)) : Value := .agg ⟨[.int .i64 r.1, .int .i64 r.2]⟩
def N57 (b : Nat) (r : (Int × Int)) : List Blk := []
theorem B57 (p0 : Int) (p1 : Int) (p2 : Int) (p3 : Int) (p4 : Int) (p5 : Int) (r : (Int × Int)) (hF : F57 p0 p1 p2 p3 p4 p5 = some r) : TS Try.prog 0 0 c57 (st 32 [(0, .agg ⟨[.int .i64 p0, .int .i64 p1, .int .i64 p2, .int .i64 p3]⟩), (1, .agg ⟨[.int .i64 p4, .int .i64 p5]⟩)]) [] (NX Try.prog 0 0 [] (FinP Try.prog Try.f57 0 (V57 0 r) (N57 0 r))) := by
  unfold F57 at hF
  refine TS.seq' (x := c57.s1) (y := c57.s2) (by kernel_rfl) ?_
  refine TS.region' (id := 0) (b := false) (ops := c57.s1.rops) (by kernel_rfl) rfl ?_
  refine TI.run 3 [2, 3, 4] [0, 1, 2] (a2 := (st 32 [(2, .pointer (some ⟨0, 0, none⟩)), (3, .pointer (some ⟨1, 0, none⟩)), (4, .pointer (some ⟨2, 0, none⟩))])) (h2 := [.cells 30 [.int .i64 p0, .int .i64 p1, .int .i64 p2, .int .i64 p3], .cells 41 [.int .i64 p4, .int .i64 p5], .cells 28 [.int .i64 0, .int .i64 0]]) (by kernel_rfl) ?_
  refine TI.done (by kernel_rfl) ?_
  refine NX.sq ?_
  refine TS.seq' (x := c57.s2.s1) (y := c57.s2.s2) (by kernel_rfl) ?_
  refine TS.region' (id := 1) (b := false) (ops := c57.s2.s1.rops) (by kernel_rfl) rfl ?_
  refine TI.run 28 [4] [2] (a2 := (st 32 [(4, .pointer (some ⟨2, 0, none⟩))])) (h2 := [.dead, .dead, .cells 28 [.int .i64 (w64 ((w64 (p4 * p0)) + (w64 (p5 * p2)))), .int .i64 (w64 ((w64 (p4 * p1)) + (w64 (p5 * p3))))]]) (by kernel_rfl) ?_
  refine TI.done (by kernel_rfl) ?_
  refine NX.sq ?_
  refine TS.ret' (by kernel_rfl) ?_
  have hF := Option.some.inj hF
  subst hF
  exact ⟨.inr rfl, rfl, .agg ⟨[.int .i64 (w64 ((w64 (p4 * p0)) + (w64 (p5 * p2)))), .int .i64 (w64 ((w64 (p4 * p1)) + (w64 (p5 * p3))))]⟩, by kernel_rfl, WkV.flat0 (by kernel_rfl) (Nat.le_of_ble_eq_true rfl)⟩
theorem C57 (p0 : Int) (p1 : Int) (p2 : Int) (p3 : Int) (p4 : Int) (p5 : Int) (r : (Int × Int)) (hF : F57 p0 p1 p2 p3 p4 p5 = some r) : PureSim Try.prog 57 [.agg ⟨[.int .i64 p0, .int .i64 p1, .int .i64 p2, .int .i64 p3]⟩, .agg ⟨[.int .i64 p4, .int .i64 p5]⟩] [] (V57 0 r) (N57 0 r) :=
  PureSim.of_Fin Try.func57 (c := c57) (by kernel_rfl) (by kernel_rfl) 0 rfl [0, 1] [] (by kernel_rfl) (B57 p0 p1 p2 p3 p4 p5 r hF)

-- agonic/agonicref06.Rest
noncomputable def c17 : Code := Try.f17.code
def F17 (p0 : Int) (p1 : Int) (p2 : Int) (p3 : Int) (p4 : Int) (p5 : Int) (p6 : Int) (p7 : Int) : Option ((Int × Int) × Int) :=
  F21 p0 p1 p2 p3 >>= fun r1 =>
  (
    if r1 == 0 then
      F55 p4 p5 10000 >>= fun r4 =>
      if r4 then
        F56 p6 p7 >>= fun r6 =>
        if r6 then
          some (false)
        else
          some (true)
      else
        some (true)
    else
      some (false)
  : Option Bool) >>= fun m8 =>
  (
    if m8 then
      some 1
    else
      some r1
  : Option Int) >>= fun m11 =>
  if m11 != 0 then
    some ((0, 0), m11)
  else
    F57 p0 p1 p2 p3 p6 p7 >>= fun r14 =>
    some ((w64 (p4 + r14.1), w64 (p5 + r14.2)), 0)
def V17 (b : Nat) (r : ((Int × Int) × Int)) : Value := .tuple ⟨[.agg ⟨[.int .i64 r.1.1, .int .i64 r.1.2]⟩, .int .i64 r.2]⟩
def N17 (b : Nat) (r : ((Int × Int) × Int)) : List Blk := []
theorem B17 (p0 : Int) (p1 : Int) (p2 : Int) (p3 : Int) (p4 : Int) (p5 : Int) (p6 : Int) (p7 : Int) (r : ((Int × Int) × Int)) (hF : F17 p0 p1 p2 p3 p4 p5 p6 p7 = some r) : TS Try.prog 0 0 c17 (st 42 [(0, .agg ⟨[.int .i64 p0, .int .i64 p1, .int .i64 p2, .int .i64 p3]⟩), (1, .agg ⟨[.int .i64 p4, .int .i64 p5]⟩), (2, .agg ⟨[.int .i64 p6, .int .i64 p7]⟩)]) [] (NX Try.prog 0 0 [] (FinP Try.prog Try.f17 0 (V17 0 r) (N17 0 r))) := by
  unfold F17 at hF
  refine TS.seq' (x := c17.s1) (y := c17.s2) (by kernel_rfl) ?_
  refine TS.region' (id := 0) (b := false) (ops := c17.s1.rops) (by kernel_rfl) rfl ?_
  refine TI.run 5 [3, 4, 5, 6] [0, 1, 2, 3] (a2 := (st 42 [(3, .pointer (some ⟨0, 0, none⟩)), (4, .pointer (some ⟨1, 0, none⟩)), (5, .pointer (some ⟨2, 0, none⟩)), (6, .pointer (some ⟨3, 0, none⟩))])) (h2 := [.cells 30 [.int .i64 p0, .int .i64 p1, .int .i64 p2, .int .i64 p3], .cells 28 [.int .i64 p4, .int .i64 p5], .cells 41 [.int .i64 p6, .int .i64 p7], .cells 28 [.int .i64 0, .int .i64 0]]) (by kernel_rfl) ?_
  refine TI.done (by kernel_rfl) ?_
  refine NX.sq ?_
  refine TS.seq' (x := c17.s2.s1) (y := c17.s2.s2) (by kernel_rfl) ?_
  have hX := of_do hF
  clear hF
  obtain ⟨r1, h2, hF⟩ := hX
  refine TS.region' (id := 1) (b := false) (ops := c17.s2.s1.rops) (by kernel_rfl) rfl ?_
  refine TI.run 1 [3, 4, 5, 6, 10] [0, 1, 2, 3] (a2 := (st 42 [(3, .pointer (some ⟨0, 0, none⟩)), (4, .pointer (some ⟨1, 0, none⟩)), (5, .pointer (some ⟨2, 0, none⟩)), (6, .pointer (some ⟨3, 0, none⟩)), (10, .agg ⟨[.int .i64 p0, .int .i64 p1, .int .i64 p2, .int .i64 p3]⟩)])) (h2 := [.cells 30 [.int .i64 p0, .int .i64 p1, .int .i64 p2, .int .i64 p3], .cells 28 [.int .i64 p4, .int .i64 p5], .cells 41 [.int .i64 p6, .int .i64 p7], .cells 28 [.int .i64 0, .int .i64 0]]) (by kernel_rfl) ?_
  refine TI.callM (g := 21) (args := [.agg ⟨[.int .i64 p0, .int .i64 p1, .int .i64 p2, .int .i64 p3]⟩]) (v := .int .i64 r1) (new := []) (by kernel_rfl) (PureSim.any (C21 p0 p1 p2 p3 r1 h2) (flatL (by kernel_rfl)) (by kernel_rfl) [.cells 30 [.int .i64 p0, .int .i64 p1, .int .i64 p2, .int .i64 p3], .cells 28 [.int .i64 p4, .int .i64 p5], .cells 41 [.int .i64 p6, .int .i64 p7], .cells 28 [.int .i64 0, .int .i64 0]]) [3, 4, 5, 6, 11] [0, 1, 2, 3] (a2 := (st 42 [(3, .pointer (some ⟨0, 0, none⟩)), (4, .pointer (some ⟨1, 0, none⟩)), (5, .pointer (some ⟨2, 0, none⟩)), (6, .pointer (some ⟨3, 0, none⟩)), (11, .int .i64 r1)])) (h2 := [.cells 30 [.int .i64 p0, .int .i64 p1, .int .i64 p2, .int .i64 p3], .cells 28 [.int .i64 p4, .int .i64 p5], .cells 41 [.int .i64 p6, .int .i64 p7], .cells 28 [.int .i64 0, .int .i64 0]]) (by kernel_rfl) ?_
  refine TI.run 1 [3, 4, 5, 6, 8] [0, 1, 2, 3] (a2 := (st 42 [(3, .pointer (some ⟨0, 0, none⟩)), (4, .pointer (some ⟨1, 0, none⟩)), (5, .pointer (some ⟨2, 0, none⟩)), (6, .pointer (some ⟨3, 0, none⟩)), (8, .int .i64 r1)])) (h2 := [.cells 30 [.int .i64 p0, .int .i64 p1, .int .i64 p2, .int .i64 p3], .cells 28 [.int .i64 p4, .int .i64 p5], .cells 41 [.int .i64 p6, .int .i64 p7], .cells 28 [.int .i64 0, .int .i64 0]]) (by kernel_rfl) ?_
  refine TI.done (by kernel_rfl) ?_
  refine NX.sq ?_
  refine TS.seq' (x := c17.s2.s2.s1) (y := c17.s2.s2.s2) (by kernel_rfl) ?_
  refine TS.seq' (x := c17.s2.s2.s1.s1) (y := c17.s2.s2.s1.s2) (by kernel_rfl) ?_
  have hX := of_do hF
  clear hF
  obtain ⟨m8, hm16, hF⟩ := hX
  have hK : NX Try.prog 0 0 [.sq c17.s2.s2.s1.s2, .sq c17.s2.s2.s2] (FinP Try.prog Try.f17 0 (V17 0 r) (N17 0 r)) .normal (st 42 [(3, .pointer (some ⟨0, 0, none⟩)), (4, .pointer (some ⟨1, 0, none⟩)), (5, .pointer (some ⟨2, 0, none⟩)), (6, .pointer (some ⟨3, 0, none⟩)), (8, .int .i64 r1), (23, .bool m8)]) [.cells 30 [.int .i64 p0, .int .i64 p1, .int .i64 p2, .int .i64 p3], .cells 28 [.int .i64 p4, .int .i64 p5], .cells 41 [.int .i64 p6, .int .i64 p7], .cells 28 [.int .i64 0, .int .i64 0]] := by
    refine NX.sq ?_
    have hX := of_do hF
    clear hF
    obtain ⟨m11, hm12, hF⟩ := hX
    have hK : NX Try.prog 0 0 [.sq c17.s2.s2.s2] (FinP Try.prog Try.f17 0 (V17 0 r) (N17 0 r)) .normal (st 42 [(3, .pointer (some ⟨0, 0, none⟩)), (4, .pointer (some ⟨1, 0, none⟩)), (5, .pointer (some ⟨2, 0, none⟩)), (6, .pointer (some ⟨3, 0, none⟩)), (8, .int .i64 m11)]) [.cells 30 [.int .i64 p0, .int .i64 p1, .int .i64 p2, .int .i64 p3], .cells 28 [.int .i64 p4, .int .i64 p5], .cells 41 [.int .i64 p6, .int .i64 p7], .cells 28 [.int .i64 0, .int .i64 0]] := by
      refine NX.sq ?_
      refine TS.seq' (x := c17.s2.s2.s2.s1) (y := c17.s2.s2.s2.s2) (by kernel_rfl) ?_
      refine TS.seq' (x := c17.s2.s2.s2.s1.s1) (y := c17.s2.s2.s2.s1.s2) (by kernel_rfl) ?_
      refine TS.region' (id := 4) (b := false) (ops := c17.s2.s2.s2.s1.s1.rops) (by kernel_rfl) rfl ?_
      refine TI.run 2 [3, 4, 5, 6, 8, 25] [0, 1, 2, 3] (a2 := (st 42 [(3, .pointer (some ⟨0, 0, none⟩)), (4, .pointer (some ⟨1, 0, none⟩)), (5, .pointer (some ⟨2, 0, none⟩)), (6, .pointer (some ⟨3, 0, none⟩)), (8, .int .i64 m11), (25, .bool (m11 != 0))])) (h2 := [.cells 30 [.int .i64 p0, .int .i64 p1, .int .i64 p2, .int .i64 p3], .cells 28 [.int .i64 p4, .int .i64 p5], .cells 41 [.int .i64 p6, .int .i64 p7], .cells 28 [.int .i64 0, .int .i64 0]]) (by kernel_rfl) ?_
      refine TI.done (by kernel_rfl) ?_
      refine NX.sq ?_
      refine TS.cond' (o := (.tmp 25)) (x := c17.s2.s2.s2.s1.s2.th) (y := c17.s2.s2.s2.s1.s2.el) (b := m11 != 0) (by kernel_rfl) (by kernel_rfl) (fun hc13 => ?_) (fun hc13 => ?_)
      · replace hF := of_pos hF hc13
        refine TS.seq' (x := c17.s2.s2.s2.s1.s2.th.s1) (y := c17.s2.s2.s2.s1.s2.th.s2) (by kernel_rfl) ?_
        refine TS.region' (id := 5) (b := false) (ops := c17.s2.s2.s2.s1.s2.th.s1.rops) (by kernel_rfl) rfl ?_
        refine TI.run 4 [6, 7] [3] (a2 := (st 42 [(6, .pointer (some ⟨3, 0, none⟩)), (7, .int .i64 m11)])) (h2 := [.dead, .dead, .dead, .cells 28 [.int .i64 0, .int .i64 0]]) (by kernel_rfl) ?_
        refine TI.done (by kernel_rfl) ?_
        refine NX.sq ?_
        refine TS.ret' (by kernel_rfl) ?_
        refine NX.sqR ?_
        have hF := Option.some.inj hF
        subst hF
        exact ⟨.inr rfl, rfl, .tuple ⟨[.agg ⟨[.int .i64 0, .int .i64 0]⟩, .int .i64 m11]⟩, by kernel_rfl, WkV.flat0 (by kernel_rfl) (Nat.le_of_ble_eq_true rfl)⟩
      · replace hF := of_neg hF hc13
        refine TS.skip' (by kernel_rfl) ?_
        refine NX.sq ?_
        refine TS.seq' (x := c17.s2.s2.s2.s2.s1) (y := c17.s2.s2.s2.s2.s2) (by kernel_rfl) ?_
        have hX := of_do hF
        clear hF
        obtain ⟨r14, h15, hF⟩ := hX
        refine TS.region' (id := 6) (b := false) (ops := c17.s2.s2.s2.s2.s1.rops) (by kernel_rfl) rfl ?_
        refine TI.run 2 [4, 6, 28, 29] [1, 3] (a2 := (st 42 [(4, .pointer (some ⟨1, 0, none⟩)), (6, .pointer (some ⟨3, 0, none⟩)), (28, .agg ⟨[.int .i64 p0, .int .i64 p1, .int .i64 p2, .int .i64 p3]⟩), (29, .agg ⟨[.int .i64 p6, .int .i64 p7]⟩)])) (h2 := [.dead, .cells 28 [.int .i64 p4, .int .i64 p5], .dead, .cells 28 [.int .i64 0, .int .i64 0]]) (by kernel_rfl) ?_
        refine TI.callM (g := 57) (args := [.agg ⟨[.int .i64 p0, .int .i64 p1, .int .i64 p2, .int .i64 p3]⟩, .agg ⟨[.int .i64 p6, .int .i64 p7]⟩]) (v := .agg ⟨[.int .i64 r14.1, .int .i64 r14.2]⟩) (new := []) (by kernel_rfl) (PureSim.any (C57 p0 p1 p2 p3 p6 p7 r14 h15) (flatL (by kernel_rfl)) (by kernel_rfl) [.dead, .cells 28 [.int .i64 p4, .int .i64 p5], .dead, .cells 28 [.int .i64 0, .int .i64 0]]) [4, 6, 30] [1, 3] (a2 := (st 42 [(4, .pointer (some ⟨1, 0, none⟩)), (6, .pointer (some ⟨3, 0, none⟩)), (30, .agg ⟨[.int .i64 r14.1, .int .i64 r14.2]⟩)])) (h2 := [.dead, .cells 28 [.int .i64 p4, .int .i64 p5], .dead, .cells 28 [.int .i64 0, .int .i64 0]]) (by kernel_rfl) ?_
        refine TI.run 2 [4, 6, 9] [1, 3, 4] (a2 := (st 42 [(4, .pointer (some ⟨1, 0, none⟩)), (6, .pointer (some ⟨3, 0, none⟩)), (9, .pointer (some ⟨4, 0, none⟩))])) (h2 := [.dead, .cells 28 [.int .i64 p4, .int .i64 p5], .dead, .cells 28 [.int .i64 0, .int .i64 0], .cells 28 [.int .i64 r14.1, .int .i64 r14.2]]) (by kernel_rfl) ?_
        refine TI.done (by kernel_rfl) ?_
        refine NX.sq ?_
        refine TS.seq' (x := c17.s2.s2.s2.s2.s2.s1) (y := c17.s2.s2.s2.s2.s2.s2) (by kernel_rfl) ?_
        refine TS.region' (id := 7) (b := false) (ops := c17.s2.s2.s2.s2.s2.s1.rops) (by kernel_rfl) rfl ?_
        refine TI.run 13 [6, 7] [3] (a2 := (st 42 [(6, .pointer (some ⟨3, 0, none⟩)), (7, .int .i64 0)])) (h2 := [.dead, .dead, .dead, .cells 28 [.int .i64 (w64 (p4 + r14.1)), .int .i64 (w64 (p5 + r14.2))], .dead]) (by kernel_rfl) ?_
        refine TI.done (by kernel_rfl) ?_
        refine NX.sq ?_
        refine TS.ret' (by kernel_rfl) ?_
        have hF := Option.some.inj hF
        subst hF
        exact ⟨.inr rfl, rfl, .tuple ⟨[.agg ⟨[.int .i64 (w64 (p4 + r14.1)), .int .i64 (w64 (p5 + r14.2))]⟩, .int .i64 0]⟩, by kernel_rfl, WkV.flat0 (by kernel_rfl) (Nat.le_of_ble_eq_true rfl)⟩
    clear hF
    have hF := hm12
    clear hm12
    refine TS.start ?_
    cases m8 with
    | true =>
      replace hF := of_pos hF rfl
      refine TS.condT' (o := (.tmp 23)) (x := c17.s2.s2.s1.s2.th) (y := c17.s2.s2.s1.s2.el) (by kernel_rfl) (by kernel_rfl) ?_
      refine TS.region' (id := 3) (b := false) (ops := c17.s2.s2.s1.s2.th.rops) (by kernel_rfl) rfl ?_
      refine TI.run 1 [3, 4, 5, 6, 8] [0, 1, 2, 3] (a2 := (st 42 [(3, .pointer (some ⟨0, 0, none⟩)), (4, .pointer (some ⟨1, 0, none⟩)), (5, .pointer (some ⟨2, 0, none⟩)), (6, .pointer (some ⟨3, 0, none⟩)), (8, .int .i64 1)])) (h2 := [.cells 30 [.int .i64 p0, .int .i64 p1, .int .i64 p2, .int .i64 p3], .cells 28 [.int .i64 p4, .int .i64 p5], .cells 41 [.int .i64 p6, .int .i64 p7], .cells 28 [.int .i64 0, .int .i64 0]]) (by kernel_rfl) ?_
      refine TI.done (by kernel_rfl) ?_
      have hF := Option.some.inj hF
      subst hF
      exact TS.weak (Wk.anew (base := 0) (L := 0) (f := [0, 1, 2, 3]) (by decide) (by decide) (Nat.le_of_ble_eq_true rfl) rfl (.cons (At.blk (by kernel_rfl) (RnB.lit (.cons (.flat (by kernel_rfl)) (.cons (.flat (by kernel_rfl)) (.cons (.flat (by kernel_rfl)) (.cons (.flat (by kernel_rfl)) .nil)))))) (.cons (At.blk (by kernel_rfl) (RnB.lit (.cons (.flat (by kernel_rfl)) (.cons (.flat (by kernel_rfl)) .nil)))) (.cons (At.blk (by kernel_rfl) (RnB.lit (.cons (.flat (by kernel_rfl)) (.cons (.flat (by kernel_rfl)) .nil)))) (.cons (At.blk (by kernel_rfl) (RnB.lit (.cons (.flat (by kernel_rfl)) (.cons (.flat (by kernel_rfl)) .nil)))) (.nil _))))) (LRn.stx [3, 4, 5, 6, 8] [.pointer (some ⟨0, 0, none⟩), .pointer (some ⟨1, 0, none⟩), .pointer (some ⟨2, 0, none⟩), .pointer (some ⟨3, 0, none⟩), .int .i64 1] [.pointer (some ⟨0, 0, none⟩), .pointer (some ⟨1, 0, none⟩), .pointer (some ⟨2, 0, none⟩), .pointer (some ⟨3, 0, none⟩), .int .i64 1] (.cons (Rn.ptr _ _ _ (Nat.le_of_ble_eq_true rfl) rfl) (.cons (Rn.ptr _ _ _ (Nat.le_of_ble_eq_true rfl) rfl) (.cons (Rn.ptr _ _ _ (Nat.le_of_ble_eq_true rfl) rfl) (.cons (Rn.ptr _ _ _ (Nat.le_of_ble_eq_true rfl) rfl) (.cons (.flat (by kernel_rfl)) .nil))))) (by kernel_rfl) (by kernel_rfl) rfl) rfl rfl) hK
    | false =>
      replace hF := of_neg hF rfl
      refine TS.condF' (o := (.tmp 23)) (x := c17.s2.s2.s1.s2.th) (y := c17.s2.s2.s1.s2.el) (by kernel_rfl) (by kernel_rfl) ?_
      refine TS.skip' (by kernel_rfl) ?_
      have hF := Option.some.inj hF
      subst hF
      exact TS.weak (Wk.anew (base := 0) (L := 0) (f := [0, 1, 2, 3]) (by decide) (by decide) (Nat.le_of_ble_eq_true rfl) rfl (.cons (At.blk (by kernel_rfl) (RnB.lit (.cons (.flat (by kernel_rfl)) (.cons (.flat (by kernel_rfl)) (.cons (.flat (by kernel_rfl)) (.cons (.flat (by kernel_rfl)) .nil)))))) (.cons (At.blk (by kernel_rfl) (RnB.lit (.cons (.flat (by kernel_rfl)) (.cons (.flat (by kernel_rfl)) .nil)))) (.cons (At.blk (by kernel_rfl) (RnB.lit (.cons (.flat (by kernel_rfl)) (.cons (.flat (by kernel_rfl)) .nil)))) (.cons (At.blk (by kernel_rfl) (RnB.lit (.cons (.flat (by kernel_rfl)) (.cons (.flat (by kernel_rfl)) .nil)))) (.nil _))))) (LRn.stx [3, 4, 5, 6, 8] [.pointer (some ⟨0, 0, none⟩), .pointer (some ⟨1, 0, none⟩), .pointer (some ⟨2, 0, none⟩), .pointer (some ⟨3, 0, none⟩), .int .i64 r1] [.pointer (some ⟨0, 0, none⟩), .pointer (some ⟨1, 0, none⟩), .pointer (some ⟨2, 0, none⟩), .pointer (some ⟨3, 0, none⟩), .int .i64 r1] (.cons (Rn.ptr _ _ _ (Nat.le_of_ble_eq_true rfl) rfl) (.cons (Rn.ptr _ _ _ (Nat.le_of_ble_eq_true rfl) rfl) (.cons (Rn.ptr _ _ _ (Nat.le_of_ble_eq_true rfl) rfl) (.cons (Rn.ptr _ _ _ (Nat.le_of_ble_eq_true rfl) rfl) (.cons (.flat (by kernel_rfl)) .nil))))) (by kernel_rfl) (by kernel_rfl) rfl) rfl rfl) hK
  rcases Bool.eq_false_or_eq_true (r1 == 0) with hc3 | hc3
  · replace hm16 := of_pos hm16 hc3
    have hX := of_do hm16
    clear hm16
    obtain ⟨r4, h5, hm16⟩ := hX
    cases r4 with
    | true =>
      replace hm16 := of_pos hm16 rfl
      have hX := of_do hm16
      clear hm16
      obtain ⟨r6, h7, hm16⟩ := hX
      cases r6 with
      | true =>
        replace hm16 := of_pos hm16 rfl
        have hm16 := Option.some.inj hm16
        subst hm16
        refine TS.region' (id := 2) (b := false) (ops := c17.s2.s2.s1.s1.rops) (by kernel_rfl) rfl ?_
        refine TI.run 1 [3, 4, 5, 6, 8, 12] [0, 1, 2, 3] (a2 := (st 42 [(3, .pointer (some ⟨0, 0, none⟩)), (4, .pointer (some ⟨1, 0, none⟩)), (5, .pointer (some ⟨2, 0, none⟩)), (6, .pointer (some ⟨3, 0, none⟩)), (8, .int .i64 r1), (12, .int .i64 r1)])) (h2 := [.cells 30 [.int .i64 p0, .int .i64 p1, .int .i64 p2, .int .i64 p3], .cells 28 [.int .i64 p4, .int .i64 p5], .cells 41 [.int .i64 p6, .int .i64 p7], .cells 28 [.int .i64 0, .int .i64 0]]) (by kernel_rfl) ?_
        refine TI.op (q := { val := .bool true }) (q_conv (e := r1 == 0) (b := true) (by kernel_rfl) hc3) [3, 4, 5, 6, 8, 13] [0, 1, 2, 3] (a2 := (st 42 [(3, .pointer (some ⟨0, 0, none⟩)), (4, .pointer (some ⟨1, 0, none⟩)), (5, .pointer (some ⟨2, 0, none⟩)), (6, .pointer (some ⟨3, 0, none⟩)), (8, .int .i64 r1), (13, .bool true)])) (h2 := [.cells 30 [.int .i64 p0, .int .i64 p1, .int .i64 p2, .int .i64 p3], .cells 28 [.int .i64 p4, .int .i64 p5], .cells 41 [.int .i64 p6, .int .i64 p7], .cells 28 [.int .i64 0, .int .i64 0]]) (by kernel_rfl) ?_
        refine TI.run 2 [3, 4, 5, 6, 8, 14, 15] [0, 1, 2, 3] (a2 := (st 42 [(3, .pointer (some ⟨0, 0, none⟩)), (4, .pointer (some ⟨1, 0, none⟩)), (5, .pointer (some ⟨2, 0, none⟩)), (6, .pointer (some ⟨3, 0, none⟩)), (8, .int .i64 r1), (14, .bool true), (15, .agg ⟨[.int .i64 p4, .int .i64 p5]⟩)])) (h2 := [.cells 30 [.int .i64 p0, .int .i64 p1, .int .i64 p2, .int .i64 p3], .cells 28 [.int .i64 p4, .int .i64 p5], .cells 41 [.int .i64 p6, .int .i64 p7], .cells 28 [.int .i64 0, .int .i64 0]]) (by kernel_rfl) ?_
        refine TI.callM (g := 55) (args := [.agg ⟨[.int .i64 p4, .int .i64 p5]⟩, .int .i64 10000]) (v := .bool true) (new := []) (by kernel_rfl) (PureSim.any (C55 p4 p5 10000 true h5) (flatL (by kernel_rfl)) (by kernel_rfl) [.cells 30 [.int .i64 p0, .int .i64 p1, .int .i64 p2, .int .i64 p3], .cells 28 [.int .i64 p4, .int .i64 p5], .cells 41 [.int .i64 p6, .int .i64 p7], .cells 28 [.int .i64 0, .int .i64 0]]) [3, 4, 5, 6, 8, 14, 16] [0, 1, 2, 3] (a2 := (st 42 [(3, .pointer (some ⟨0, 0, none⟩)), (4, .pointer (some ⟨1, 0, none⟩)), (5, .pointer (some ⟨2, 0, none⟩)), (6, .pointer (some ⟨3, 0, none⟩)), (8, .int .i64 r1), (14, .bool true), (16, .bool true)])) (h2 := [.cells 30 [.int .i64 p0, .int .i64 p1, .int .i64 p2, .int .i64 p3], .cells 28 [.int .i64 p4, .int .i64 p5], .cells 41 [.int .i64 p6, .int .i64 p7], .cells 28 [.int .i64 0, .int .i64 0]]) (by kernel_rfl) ?_
        refine TI.run 3 [3, 4, 5, 6, 8, 14, 18, 19] [0, 1, 2, 3] (a2 := (st 42 [(3, .pointer (some ⟨0, 0, none⟩)), (4, .pointer (some ⟨1, 0, none⟩)), (5, .pointer (some ⟨2, 0, none⟩)), (6, .pointer (some ⟨3, 0, none⟩)), (8, .int .i64 r1), (14, .bool true), (18, .bool false), (19, .agg ⟨[.int .i64 p6, .int .i64 p7]⟩)])) (h2 := [.cells 30 [.int .i64 p0, .int .i64 p1, .int .i64 p2, .int .i64 p3], .cells 28 [.int .i64 p4, .int .i64 p5], .cells 41 [.int .i64 p6, .int .i64 p7], .cells 28 [.int .i64 0, .int .i64 0]]) (by kernel_rfl) ?_
        refine TI.callM (g := 56) (args := [.agg ⟨[.int .i64 p6, .int .i64 p7]⟩]) (v := .bool true) (new := []) (by kernel_rfl) (PureSim.any (C56 p6 p7 true h7) (flatL (by kernel_rfl)) (by kernel_rfl) [.cells 30 [.int .i64 p0, .int .i64 p1, .int .i64 p2, .int .i64 p3], .cells 28 [.int .i64 p4, .int .i64 p5], .cells 41 [.int .i64 p6, .int .i64 p7], .cells 28 [.int .i64 0, .int .i64 0]]) [3, 4, 5, 6, 8, 14, 18, 20] [0, 1, 2, 3] (a2 := (st 42 [(3, .pointer (some ⟨0, 0, none⟩)), (4, .pointer (some ⟨1, 0, none⟩)), (5, .pointer (some ⟨2, 0, none⟩)), (6, .pointer (some ⟨3, 0, none⟩)), (8, .int .i64 r1), (14, .bool true), (18, .bool false), (20, .bool true)])) (h2 := [.cells 30 [.int .i64 p0, .int .i64 p1, .int .i64 p2, .int .i64 p3], .cells 28 [.int .i64 p4, .int .i64 p5], .cells 41 [.int .i64 p6, .int .i64 p7], .cells 28 [.int .i64 0, .int .i64 0]]) (by kernel_rfl) ?_
        refine TI.run 3 [3, 4, 5, 6, 8, 23] [0, 1, 2, 3] (a2 := (st 42 [(3, .pointer (some ⟨0, 0, none⟩)), (4, .pointer (some ⟨1, 0, none⟩)), (5, .pointer (some ⟨2, 0, none⟩)), (6, .pointer (some ⟨3, 0, none⟩)), (8, .int .i64 r1), (23, .bool false)])) (h2 := [.cells 30 [.int .i64 p0, .int .i64 p1, .int .i64 p2, .int .i64 p3], .cells 28 [.int .i64 p4, .int .i64 p5], .cells 41 [.int .i64 p6, .int .i64 p7], .cells 28 [.int .i64 0, .int .i64 0]]) (by kernel_rfl) ?_
        refine TI.done (by kernel_rfl) ?_
        exact hK
      | false =>
        replace hm16 := of_neg hm16 rfl
        have hm16 := Option.some.inj hm16
        subst hm16
        refine TS.region' (id := 2) (b := false) (ops := c17.s2.s2.s1.s1.rops) (by kernel_rfl) rfl ?_
        refine TI.run 1 [3, 4, 5, 6, 8, 12] [0, 1, 2, 3] (a2 := (st 42 [(3, .pointer (some ⟨0, 0, none⟩)), (4, .pointer (some ⟨1, 0, none⟩)), (5, .pointer (some ⟨2, 0, none⟩)), (6, .pointer (some ⟨3, 0, none⟩)), (8, .int .i64 r1), (12, .int .i64 r1)])) (h2 := [.cells 30 [.int .i64 p0, .int .i64 p1, .int .i64 p2, .int .i64 p3], .cells 28 [.int .i64 p4, .int .i64 p5], .cells 41 [.int .i64 p6, .int .i64 p7], .cells 28 [.int .i64 0, .int .i64 0]]) (by kernel_rfl) ?_
        refine TI.op (q := { val := .bool true }) (q_conv (e := r1 == 0) (b := true) (by kernel_rfl) hc3) [3, 4, 5, 6, 8, 13] [0, 1, 2, 3] (a2 := (st 42 [(3, .pointer (some ⟨0, 0, none⟩)), (4, .pointer (some ⟨1, 0, none⟩)), (5, .pointer (some ⟨2, 0, none⟩)), (6, .pointer (some ⟨3, 0, none⟩)), (8, .int .i64 r1), (13, .bool true)])) (h2 := [.cells 30 [.int .i64 p0, .int .i64 p1, .int .i64 p2, .int .i64 p3], .cells 28 [.int .i64 p4, .int .i64 p5], .cells 41 [.int .i64 p6, .int .i64 p7], .cells 28 [.int .i64 0, .int .i64 0]]) (by kernel_rfl) ?_
        refine TI.run 2 [3, 4, 5, 6, 8, 14, 15] [0, 1, 2, 3] (a2 := (st 42 [(3, .pointer (some ⟨0, 0, none⟩)), (4, .pointer (some ⟨1, 0, none⟩)), (5, .pointer (some ⟨2, 0, none⟩)), (6, .pointer (some ⟨3, 0, none⟩)), (8, .int .i64 r1), (14, .bool true), (15, .agg ⟨[.int .i64 p4, .int .i64 p5]⟩)])) (h2 := [.cells 30 [.int .i64 p0, .int .i64 p1, .int .i64 p2, .int .i64 p3], .cells 28 [.int .i64 p4, .int .i64 p5], .cells 41 [.int .i64 p6, .int .i64 p7], .cells 28 [.int .i64 0, .int .i64 0]]) (by kernel_rfl) ?_
        refine TI.callM (g := 55) (args := [.agg ⟨[.int .i64 p4, .int .i64 p5]⟩, .int .i64 10000]) (v := .bool true) (new := []) (by kernel_rfl) (PureSim.any (C55 p4 p5 10000 true h5) (flatL (by kernel_rfl)) (by kernel_rfl) [.cells 30 [.int .i64 p0, .int .i64 p1, .int .i64 p2, .int .i64 p3], .cells 28 [.int .i64 p4, .int .i64 p5], .cells 41 [.int .i64 p6, .int .i64 p7], .cells 28 [.int .i64 0, .int .i64 0]]) [3, 4, 5, 6, 8, 14, 16] [0, 1, 2, 3] (a2 := (st 42 [(3, .pointer (some ⟨0, 0, none⟩)), (4, .pointer (some ⟨1, 0, none⟩)), (5, .pointer (some ⟨2, 0, none⟩)), (6, .pointer (some ⟨3, 0, none⟩)), (8, .int .i64 r1), (14, .bool true), (16, .bool true)])) (h2 := [.cells 30 [.int .i64 p0, .int .i64 p1, .int .i64 p2, .int .i64 p3], .cells 28 [.int .i64 p4, .int .i64 p5], .cells 41 [.int .i64 p6, .int .i64 p7], .cells 28 [.int .i64 0, .int .i64 0]]) (by kernel_rfl) ?_
        refine TI.run 3 [3, 4, 5, 6, 8, 14, 18, 19] [0, 1, 2, 3] (a2 := (st 42 [(3, .pointer (some ⟨0, 0, none⟩)), (4, .pointer (some ⟨1, 0, none⟩)), (5, .pointer (some ⟨2, 0, none⟩)), (6, .pointer (some ⟨3, 0, none⟩)), (8, .int .i64 r1), (14, .bool true), (18, .bool false), (19, .agg ⟨[.int .i64 p6, .int .i64 p7]⟩)])) (h2 := [.cells 30 [.int .i64 p0, .int .i64 p1, .int .i64 p2, .int .i64 p3], .cells 28 [.int .i64 p4, .int .i64 p5], .cells 41 [.int .i64 p6, .int .i64 p7], .cells 28 [.int .i64 0, .int .i64 0]]) (by kernel_rfl) ?_
        refine TI.callM (g := 56) (args := [.agg ⟨[.int .i64 p6, .int .i64 p7]⟩]) (v := .bool false) (new := []) (by kernel_rfl) (PureSim.any (C56 p6 p7 false h7) (flatL (by kernel_rfl)) (by kernel_rfl) [.cells 30 [.int .i64 p0, .int .i64 p1, .int .i64 p2, .int .i64 p3], .cells 28 [.int .i64 p4, .int .i64 p5], .cells 41 [.int .i64 p6, .int .i64 p7], .cells 28 [.int .i64 0, .int .i64 0]]) [3, 4, 5, 6, 8, 14, 18, 20] [0, 1, 2, 3] (a2 := (st 42 [(3, .pointer (some ⟨0, 0, none⟩)), (4, .pointer (some ⟨1, 0, none⟩)), (5, .pointer (some ⟨2, 0, none⟩)), (6, .pointer (some ⟨3, 0, none⟩)), (8, .int .i64 r1), (14, .bool true), (18, .bool false), (20, .bool false)])) (h2 := [.cells 30 [.int .i64 p0, .int .i64 p1, .int .i64 p2, .int .i64 p3], .cells 28 [.int .i64 p4, .int .i64 p5], .cells 41 [.int .i64 p6, .int .i64 p7], .cells 28 [.int .i64 0, .int .i64 0]]) (by kernel_rfl) ?_
        refine TI.run 3 [3, 4, 5, 6, 8, 23] [0, 1, 2, 3] (a2 := (st 42 [(3, .pointer (some ⟨0, 0, none⟩)), (4, .pointer (some ⟨1, 0, none⟩)), (5, .pointer (some ⟨2, 0, none⟩)), (6, .pointer (some ⟨3, 0, none⟩)), (8, .int .i64 r1), (23, .bool true)])) (h2 := [.cells 30 [.int .i64 p0, .int .i64 p1, .int .i64 p2, .int .i64 p3], .cells 28 [.int .i64 p4, .int .i64 p5], .cells 41 [.int .i64 p6, .int .i64 p7], .cells 28 [.int .i64 0, .int .i64 0]]) (by kernel_rfl) ?_
        refine TI.done (by kernel_rfl) ?_
        exact hK
    | false =>
      replace hm16 := of_neg hm16 rfl
      have hm16 := Option.some.inj hm16
      subst hm16
      refine TS.region' (id := 2) (b := false) (ops := c17.s2.s2.s1.s1.rops) (by kernel_rfl) rfl ?_
      refine TI.run 1 [3, 4, 5, 6, 8, 12] [0, 1, 2, 3] (a2 := (st 42 [(3, .pointer (some ⟨0, 0, none⟩)), (4, .pointer (some ⟨1, 0, none⟩)), (5, .pointer (some ⟨2, 0, none⟩)), (6, .pointer (some ⟨3, 0, none⟩)), (8, .int .i64 r1), (12, .int .i64 r1)])) (h2 := [.cells 30 [.int .i64 p0, .int .i64 p1, .int .i64 p2, .int .i64 p3], .cells 28 [.int .i64 p4, .int .i64 p5], .cells 41 [.int .i64 p6, .int .i64 p7], .cells 28 [.int .i64 0, .int .i64 0]]) (by kernel_rfl) ?_
      refine TI.op (q := { val := .bool true }) (q_conv (e := r1 == 0) (b := true) (by kernel_rfl) hc3) [3, 4, 5, 6, 8, 13] [0, 1, 2, 3] (a2 := (st 42 [(3, .pointer (some ⟨0, 0, none⟩)), (4, .pointer (some ⟨1, 0, none⟩)), (5, .pointer (some ⟨2, 0, none⟩)), (6, .pointer (some ⟨3, 0, none⟩)), (8, .int .i64 r1), (13, .bool true)])) (h2 := [.cells 30 [.int .i64 p0, .int .i64 p1, .int .i64 p2, .int .i64 p3], .cells 28 [.int .i64 p4, .int .i64 p5], .cells 41 [.int .i64 p6, .int .i64 p7], .cells 28 [.int .i64 0, .int .i64 0]]) (by kernel_rfl) ?_
      refine TI.run 2 [3, 4, 5, 6, 8, 14, 15] [0, 1, 2, 3] (a2 := (st 42 [(3, .pointer (some ⟨0, 0, none⟩)), (4, .pointer (some ⟨1, 0, none⟩)), (5, .pointer (some ⟨2, 0, none⟩)), (6, .pointer (some ⟨3, 0, none⟩)), (8, .int .i64 r1), (14, .bool true), (15, .agg ⟨[.int .i64 p4, .int .i64 p5]⟩)])) (h2 := [.cells 30 [.int .i64 p0, .int .i64 p1, .int .i64 p2, .int .i64 p3], .cells 28 [.int .i64 p4, .int .i64 p5], .cells 41 [.int .i64 p6, .int .i64 p7], .cells 28 [.int .i64 0, .int .i64 0]]) (by kernel_rfl) ?_
      refine TI.callM (g := 55) (args := [.agg ⟨[.int .i64 p4, .int .i64 p5]⟩, .int .i64 10000]) (v := .bool false) (new := []) (by kernel_rfl) (PureSim.any (C55 p4 p5 10000 false h5) (flatL (by kernel_rfl)) (by kernel_rfl) [.cells 30 [.int .i64 p0, .int .i64 p1, .int .i64 p2, .int .i64 p3], .cells 28 [.int .i64 p4, .int .i64 p5], .cells 41 [.int .i64 p6, .int .i64 p7], .cells 28 [.int .i64 0, .int .i64 0]]) [3, 4, 5, 6, 8, 14, 16] [0, 1, 2, 3] (a2 := (st 42 [(3, .pointer (some ⟨0, 0, none⟩)), (4, .pointer (some ⟨1, 0, none⟩)), (5, .pointer (some ⟨2, 0, none⟩)), (6, .pointer (some ⟨3, 0, none⟩)), (8, .int .i64 r1), (14, .bool true), (16, .bool false)])) (h2 := [.cells 30 [.int .i64 p0, .int .i64 p1, .int .i64 p2, .int .i64 p3], .cells 28 [.int .i64 p4, .int .i64 p5], .cells 41 [.int .i64 p6, .int .i64 p7], .cells 28 [.int .i64 0, .int .i64 0]]) (by kernel_rfl) ?_
      refine TI.run 7 [3, 4, 5, 6, 8, 23] [0, 1, 2, 3] (a2 := (st 42 [(3, .pointer (some ⟨0, 0, none⟩)), (4, .pointer (some ⟨1, 0, none⟩)), (5, .pointer (some ⟨2, 0, none⟩)), (6, .pointer (some ⟨3, 0, none⟩)), (8, .int .i64 r1), (23, .bool true)])) (h2 := [.cells 30 [.int .i64 p0, .int .i64 p1, .int .i64 p2, .int .i64 p3], .cells 28 [.int .i64 p4, .int .i64 p5], .cells 41 [.int .i64 p6, .int .i64 p7], .cells 28 [.int .i64 0, .int .i64 0]]) (by kernel_rfl) ?_
      refine TI.done (by kernel_rfl) ?_
      exact hK
  · replace hm16 := of_neg hm16 hc3
    have hm16 := Option.some.inj hm16
    subst hm16
    refine TS.region' (id := 2) (b := false) (ops := c17.s2.s2.s1.s1.rops) (by kernel_rfl) rfl ?_
    refine TI.run 1 [3, 4, 5, 6, 8, 12] [0, 1, 2, 3] (a2 := (st 42 [(3, .pointer (some ⟨0, 0, none⟩)), (4, .pointer (some ⟨1, 0, none⟩)), (5, .pointer (some ⟨2, 0, none⟩)), (6, .pointer (some ⟨3, 0, none⟩)), (8, .int .i64 r1), (12, .int .i64 r1)])) (h2 := [.cells 30 [.int .i64 p0, .int .i64 p1, .int .i64 p2, .int .i64 p3], .cells 28 [.int .i64 p4, .int .i64 p5], .cells 41 [.int .i64 p6, .int .i64 p7], .cells 28 [.int .i64 0, .int .i64 0]]) (by kernel_rfl) ?_
    refine TI.op (q := { val := .bool false }) (q_conv (e := r1 == 0) (b := false) (by kernel_rfl) hc3) [3, 4, 5, 6, 8, 13] [0, 1, 2, 3] (a2 := (st 42 [(3, .pointer (some ⟨0, 0, none⟩)), (4, .pointer (some ⟨1, 0, none⟩)), (5, .pointer (some ⟨2, 0, none⟩)), (6, .pointer (some ⟨3, 0, none⟩)), (8, .int .i64 r1), (13, .bool false)])) (h2 := [.cells 30 [.int .i64 p0, .int .i64 p1, .int .i64 p2, .int .i64 p3], .cells 28 [.int .i64 p4, .int .i64 p5], .cells 41 [.int .i64 p6, .int .i64 p7], .cells 28 [.int .i64 0, .int .i64 0]]) (by kernel_rfl) ?_
    refine TI.run 10 [3, 4, 5, 6, 8, 23] [0, 1, 2, 3] (a2 := (st 42 [(3, .pointer (some ⟨0, 0, none⟩)), (4, .pointer (some ⟨1, 0, none⟩)), (5, .pointer (some ⟨2, 0, none⟩)), (6, .pointer (some ⟨3, 0, none⟩)), (8, .int .i64 r1), (23, .bool false)])) (h2 := [.cells 30 [.int .i64 p0, .int .i64 p1, .int .i64 p2, .int .i64 p3], .cells 28 [.int .i64 p4, .int .i64 p5], .cells 41 [.int .i64 p6, .int .i64 p7], .cells 28 [.int .i64 0, .int .i64 0]]) (by kernel_rfl) ?_
    refine TI.done (by kernel_rfl) ?_
    exact hK
theorem C17 (p0 : Int) (p1 : Int) (p2 : Int) (p3 : Int) (p4 : Int) (p5 : Int) (p6 : Int) (p7 : Int) (r : ((Int × Int) × Int)) (hF : F17 p0 p1 p2 p3 p4 p5 p6 p7 = some r) : PureSim Try.prog 17 [.agg ⟨[.int .i64 p0, .int .i64 p1, .int .i64 p2, .int .i64 p3]⟩, .agg ⟨[.int .i64 p4, .int .i64 p5]⟩, .agg ⟨[.int .i64 p6, .int .i64 p7]⟩] [] (V17 0 r) (N17 0 r) :=
  PureSim.of_Fin Try.func17 (c := c17) (by kernel_rfl) (by kernel_rfl) 0 rfl [0, 1, 2] [] (by kernel_rfl) (B17 p0 p1 p2 p3 p4 p5 p6 p7 r hF)

end Go.Proofs.Ytenjelagfbceeaa
