/- What functions of the program compute, and that they do. -/
import Derived.Test.YtenjelagfbceeaaTs7
import Derived.Test.YtenjelagfbceeaaProg
import Derived.KernelRfl
import Derived.Test.YtenjelagfbceeaaGiven
set_option linter.unusedVariables false
set_option linter.unusedSimpArgs false
set_option maxRecDepth 100000
set_option maxHeartbeats 4000000
namespace Go.Proofs.Ytenjelagfbceeaa
open Go Go.Cl
theorem mixed : Try.prog.follows .mixedOrders = true := by kernel_rfl

-- agonic/agoniclaw06.given
noncomputable def c13 : Code := Try.f13.code
def F13 (p0 : Int) (p1 : Int) (p2 : Int) (p3 : Int) : Option ((Int × Int) × (Int × Int)) :=
  some ((p0, p1), (p2, p3))
def V13 (b : Nat) (r : ((Int × Int) × (Int × Int))) : Value := .agg ⟨[.int .i64 r.1.1, .int .i64 r.1.2, .int .i64 r.2.1, .int .i64 r.2.2]⟩
def N13 (b : Nat) (r : ((Int × Int) × (Int × Int))) : List Blk := []
theorem B13 (p0 : Int) (p1 : Int) (p2 : Int) (p3 : Int) (r : ((Int × Int) × (Int × Int))) (hF : F13 p0 p1 p2 p3 = some r) : TS Try.prog 0 0 c13 (st 8 [(0, .agg ⟨[.int .i64 p0, .int .i64 p1, .int .i64 p2, .int .i64 p3]⟩)]) [] (NX Try.prog 0 0 [] (FinP Try.prog Try.f13 0 (V13 0 r) (N13 0 r))) := by
  unfold F13 at hF
  refine TS.seq' (x := c13.s1) (y := c13.s2) (by kernel_rfl) ?_
  refine TS.region' (id := 0) (b := false) (ops := c13.s1.rops) (by kernel_rfl) rfl ?_
  refine TI.run 2 [1, 2] [0, 1] (a2 := (st 8 [(1, .pointer (some ⟨0, 0, none⟩)), (2, .pointer (some ⟨1, 0, none⟩))])) (h2 := [.cells 25 [.int .i64 p0, .int .i64 p1, .int .i64 p2, .int .i64 p3], .cells 30 [.int .i64 0, .int .i64 0, .int .i64 0, .int .i64 0]]) (by kernel_rfl) ?_
  refine TI.done (by kernel_rfl) ?_
  refine NX.sq ?_
  refine TS.seq' (x := c13.s2.s1) (y := c13.s2.s2) (by kernel_rfl) ?_
  refine TS.region' (id := 1) (b := false) (ops := c13.s2.s1.rops) (by kernel_rfl) rfl ?_
  refine TI.run 6 [2] [1] (a2 := (st 8 [(2, .pointer (some ⟨1, 0, none⟩))])) (h2 := [.dead, .cells 30 [.int .i64 p0, .int .i64 p1, .int .i64 p2, .int .i64 p3]]) (by kernel_rfl) ?_
  refine TI.done (by kernel_rfl) ?_
  refine NX.sq ?_
  refine TS.ret' (by kernel_rfl) ?_
  have hF := Option.some.inj hF
  subst hF
  exact ⟨.inr rfl, rfl, .agg ⟨[.int .i64 p0, .int .i64 p1, .int .i64 p2, .int .i64 p3]⟩, by kernel_rfl, WkV.flat0 (by kernel_rfl) (Nat.le_of_ble_eq_true rfl)⟩
theorem C13 (p0 : Int) (p1 : Int) (p2 : Int) (p3 : Int) (r : ((Int × Int) × (Int × Int))) (hF : F13 p0 p1 p2 p3 = some r) : PureSim Try.prog 13 [.agg ⟨[.int .i64 p0, .int .i64 p1, .int .i64 p2, .int .i64 p3]⟩] [] (V13 0 r) (N13 0 r) :=
  PureSim.of_Fin Try.func13 (c := c13) (by kernel_rfl) (by kernel_rfl) 0 rfl [0] [] (by kernel_rfl) (B13 p0 p1 p2 p3 r hF)

-- agonic/magnet.between
noncomputable def c68 : Code := Try.f68.code
def F68 (p0 : Int) (p1 : Int) (p2 : Int) : Option Bool :=
  (
    if decide (p0 ≤ p1) then
      some (decide (p1 ≤ p2))
    else
      some (false)
  : Option Bool) >>= fun m2 =>
  some m2
def V68 (b : Nat) (r : Bool) : Value := .bool r
def N68 (b : Nat) (r : Bool) : List Blk := []
theorem B68 (p0 : Int) (p1 : Int) (p2 : Int) (r : Bool) (hF : F68 p0 p1 p2 = some r) : TS Try.prog 0 0 c68 (st 15 [(0, .int .i64 p0), (1, .int .i64 p1), (2, .int .i64 p2)]) [] (NX Try.prog 0 0 [] (FinP Try.prog Try.f68 0 (V68 0 r) (N68 0 r))) := by
  unfold F68 at hF
  refine TS.seq' (x := c68.s1) (y := c68.s2) (by kernel_rfl) ?_
  refine TS.region' (id := 0) (b := false) (ops := c68.s1.rops) (by kernel_rfl) rfl ?_
  refine TI.run 1 [0, 1, 2] [] (a2 := (st 15 [(0, .int .i64 p0), (1, .int .i64 p1), (2, .int .i64 p2)])) (h2 := []) (by kernel_rfl) ?_
  refine TI.done (by kernel_rfl) ?_
  refine NX.sq ?_
  refine TS.seq' (x := c68.s2.s1) (y := c68.s2.s2) (by kernel_rfl) ?_
  have hX := of_do hF
  clear hF
  obtain ⟨m2, hm3, hF⟩ := hX
  have hK : NX Try.prog 0 0 [.sq c68.s2.s2] (FinP Try.prog Try.f68 0 (V68 0 r) (N68 0 r)) .normal (st 15 [(6, .bool m2)]) [] := by
    refine NX.sq ?_
    refine TS.ret' (by kernel_rfl) ?_
    have hF := Option.some.inj hF
    subst hF
    exact ⟨.inr rfl, rfl, .bool m2, by kernel_rfl, WkV.flat0 (by kernel_rfl) (Nat.le_of_ble_eq_true rfl)⟩
  rcases Bool.eq_false_or_eq_true (decide (p0 ≤ p1)) with hc1 | hc1
  · replace hm3 := of_pos hm3 hc1
    have hm3 := Option.some.inj hm3
    subst hm3
    refine TS.region' (id := 1) (b := false) (ops := c68.s2.s1.rops) (by kernel_rfl) rfl ?_
    refine TI.run 2 [1, 2, 7, 8] [] (a2 := (st 15 [(1, .int .i64 p1), (2, .int .i64 p2), (7, .int .i64 p0), (8, .int .i64 p1)])) (h2 := []) (by kernel_rfl) ?_
    refine TI.op (q := { val := .bool true }) (q_conv (e := decide (p0 ≤ p1)) (b := true) (by kernel_rfl) hc1) [1, 2, 9] [] (a2 := (st 15 [(1, .int .i64 p1), (2, .int .i64 p2), (9, .bool true)])) (h2 := []) (by kernel_rfl) ?_
    refine TI.run 6 [6] [] (a2 := (st 15 [(6, .bool (decide (p1 ≤ p2)))])) (h2 := []) (by kernel_rfl) ?_
    refine TI.done (by kernel_rfl) ?_
    exact hK
  · replace hm3 := of_neg hm3 hc1
    have hm3 := Option.some.inj hm3
    subst hm3
    refine TS.region' (id := 1) (b := false) (ops := c68.s2.s1.rops) (by kernel_rfl) rfl ?_
    refine TI.run 2 [1, 2, 7, 8] [] (a2 := (st 15 [(1, .int .i64 p1), (2, .int .i64 p2), (7, .int .i64 p0), (8, .int .i64 p1)])) (h2 := []) (by kernel_rfl) ?_
    refine TI.op (q := { val := .bool false }) (q_conv (e := decide (p0 ≤ p1)) (b := false) (by kernel_rfl) hc1) [1, 2, 9] [] (a2 := (st 15 [(1, .int .i64 p1), (2, .int .i64 p2), (9, .bool false)])) (h2 := []) (by kernel_rfl) ?_
    refine TI.run 6 [6] [] (a2 := (st 15 [(6, .bool false)])) (h2 := []) (by kernel_rfl) ?_
    refine TI.done (by kernel_rfl) ?_
    exact hK
theorem C68 (p0 : Int) (p1 : Int) (p2 : Int) (r : Bool) (hF : F68 p0 p1 p2 = some r) : PureSim Try.prog 68 [.int .i64 p0, .int .i64 p1, .int .i64 p2] [] (V68 0 r) (N68 0 r) :=
  PureSim.of_Fin Try.func68 (c := c68) (by kernel_rfl) (by kernel_rfl) 0 rfl [0, 1, 2] [] (by kernel_rfl) (B68 p0 p1 p2 r hF)

-- (agonic/magnet.Vector).within
noncomputable def c58 : Code := Try.f58.code
def F58 (p0 : Int) (p1 : Int) (p2 : Int) : Option Bool :=
  F68 (w64 (0 - p2)) p0 p2 >>= fun r1 =>
  (
    if r1 then
      F68 (w64 (0 - p2)) p1 p2 >>= fun r3 =>
      some (r3)
    else
      some (false)
  : Option Bool) >>= fun m5 =>
  some m5
def V58 (b : Nat) (r : Bool) : Value := .bool r
def N58 (b : Nat) (r : Bool) : List Blk := []
theorem B58 (p0 : Int) (p1 : Int) (p2 : Int) (r : Bool) (hF : F58 p0 p1 p2 = some r) : TS Try.prog 0 0 c58 (st 19 [(0, .agg ⟨[.int .i64 p0, .int .i64 p1]⟩), (1, .int .i64 p2)]) [] (NX Try.prog 0 0 [] (FinP Try.prog Try.f58 0 (V58 0 r) (N58 0 r))) := by
  unfold F58 at hF
  refine TS.seq' (x := c58.s1) (y := c58.s2) (by kernel_rfl) ?_
  refine TS.region' (id := 0) (b := false) (ops := c58.s1.rops) (by kernel_rfl) rfl ?_
  refine TI.run 2 [1, 2] [0] (a2 := (st 19 [(1, .int .i64 p2), (2, .pointer (some ⟨0, 0, none⟩))])) (h2 := [.cells 23 [.int .i64 p0, .int .i64 p1]]) (by kernel_rfl) ?_
  refine TI.done (by kernel_rfl) ?_
  refine NX.sq ?_
  refine TS.seq' (x := c58.s2.s1) (y := c58.s2.s2) (by kernel_rfl) ?_
  have hX := of_do hF
  clear hF
  obtain ⟨r1, h2, hF⟩ := hX
  have hX := of_do hF
  clear hF
  obtain ⟨m5, hm6, hF⟩ := hX
  have hK : NX Try.prog 0 0 [.sq c58.s2.s2] (FinP Try.prog Try.f58 0 (V58 0 r) (N58 0 r)) .normal (st 19 [(4, .bool m5)]) [.dead] := by
    refine NX.sq ?_
    refine TS.ret' (by kernel_rfl) ?_
    have hF := Option.some.inj hF
    subst hF
    exact ⟨.inr rfl, rfl, .bool m5, by kernel_rfl, WkV.flat0 (by kernel_rfl) (Nat.le_of_ble_eq_true rfl)⟩
  cases r1 with
  | true =>
    replace hm6 := of_pos hm6 rfl
    have hX := of_do hm6
    clear hm6
    obtain ⟨r3, h4, hm6⟩ := hX
    have hm6 := Option.some.inj hm6
    subst hm6
    refine TS.region' (id := 1) (b := false) (ops := c58.s2.s1.rops) (by kernel_rfl) rfl ?_
    refine TI.run 5 [1, 2, 6, 8, 9] [0] (a2 := (st 19 [(1, .int .i64 p2), (2, .pointer (some ⟨0, 0, none⟩)), (6, .int .i64 (w64 (0 - p2))), (8, .int .i64 p0), (9, .int .i64 p2)])) (h2 := [.cells 23 [.int .i64 p0, .int .i64 p1]]) (by kernel_rfl) ?_
    refine TI.callM (g := 68) (args := [.int .i64 (w64 (0 - p2)), .int .i64 p0, .int .i64 p2]) (v := .bool true) (new := []) (by kernel_rfl) (PureSim.any (C68 (w64 (0 - p2)) p0 p2 true h2) (flatL (by kernel_rfl)) (by kernel_rfl) [.cells 23 [.int .i64 p0, .int .i64 p1]]) [1, 2, 10] [0] (a2 := (st 19 [(1, .int .i64 p2), (2, .pointer (some ⟨0, 0, none⟩)), (10, .bool true)])) (h2 := [.cells 23 [.int .i64 p0, .int .i64 p1]]) (by kernel_rfl) ?_
    refine TI.run 6 [11, 13, 15, 16] [] (a2 := (st 19 [(11, .bool true), (13, .int .i64 (w64 (0 - p2))), (15, .int .i64 p1), (16, .int .i64 p2)])) (h2 := [.dead]) (by kernel_rfl) ?_
    refine TI.callM (g := 68) (args := [.int .i64 (w64 (0 - p2)), .int .i64 p1, .int .i64 p2]) (v := .bool r3) (new := []) (by kernel_rfl) (PureSim.any (C68 (w64 (0 - p2)) p1 p2 r3 h4) (flatL (by kernel_rfl)) (by kernel_rfl) [.dead]) [11, 17] [] (a2 := (st 19 [(11, .bool true), (17, .bool r3)])) (h2 := [.dead]) (by kernel_rfl) ?_
    refine TI.run 2 [4] [] (a2 := (st 19 [(4, .bool r3)])) (h2 := [.dead]) (by kernel_rfl) ?_
    refine TI.done (by kernel_rfl) ?_
    exact hK
  | false =>
    replace hm6 := of_neg hm6 rfl
    have hm6 := Option.some.inj hm6
    subst hm6
    refine TS.region' (id := 1) (b := false) (ops := c58.s2.s1.rops) (by kernel_rfl) rfl ?_
    refine TI.run 5 [1, 2, 6, 8, 9] [0] (a2 := (st 19 [(1, .int .i64 p2), (2, .pointer (some ⟨0, 0, none⟩)), (6, .int .i64 (w64 (0 - p2))), (8, .int .i64 p0), (9, .int .i64 p2)])) (h2 := [.cells 23 [.int .i64 p0, .int .i64 p1]]) (by kernel_rfl) ?_
    refine TI.callM (g := 68) (args := [.int .i64 (w64 (0 - p2)), .int .i64 p0, .int .i64 p2]) (v := .bool false) (new := []) (by kernel_rfl) (PureSim.any (C68 (w64 (0 - p2)) p0 p2 false h2) (flatL (by kernel_rfl)) (by kernel_rfl) [.cells 23 [.int .i64 p0, .int .i64 p1]]) [1, 2, 10] [0] (a2 := (st 19 [(1, .int .i64 p2), (2, .pointer (some ⟨0, 0, none⟩)), (10, .bool false)])) (h2 := [.cells 23 [.int .i64 p0, .int .i64 p1]]) (by kernel_rfl) ?_
    refine TI.run 9 [4] [] (a2 := (st 19 [(4, .bool false)])) (h2 := [.dead]) (by kernel_rfl) ?_
    refine TI.done (by kernel_rfl) ?_
    exact hK
theorem C58 (p0 : Int) (p1 : Int) (p2 : Int) (r : Bool) (hF : F58 p0 p1 p2 = some r) : PureSim Try.prog 58 [.agg ⟨[.int .i64 p0, .int .i64 p1]⟩, .int .i64 p2] [] (V58 0 r) (N58 0 r) :=
  PureSim.of_Fin Try.func58 (c := c58) (by kernel_rfl) (by kernel_rfl) 0 rfl [0, 1] [] (by kernel_rfl) (B58 p0 p1 p2 r hF)

-- (agonic/magnet.Vector).cross
noncomputable def c59 : Code := Try.f59.code
def F59 (p0 : Int) (p1 : Int) (p2 : Int) (p3 : Int) : Option Int :=
  some (w64 ((w64 (p0 * p3)) - (w64 (p1 * p2))))
def V59 (b : Nat) (r : Int) : Value := .int .i64 r
def N59 (b : Nat) (r : Int) : List Blk := []
theorem B59 (p0 : Int) (p1 : Int) (p2 : Int) (p3 : Int) (r : Int) (hF : F59 p0 p1 p2 p3 = some r) : TS Try.prog 0 0 c59 (st 16 [(0, .agg ⟨[.int .i64 p0, .int .i64 p1]⟩), (1, .agg ⟨[.int .i64 p2, .int .i64 p3]⟩)]) [] (NX Try.prog 0 0 [] (FinP Try.prog Try.f59 0 (V59 0 r) (N59 0 r))) := by
  unfold F59 at hF
  refine TS.seq' (x := c59.s1) (y := c59.s2) (by kernel_rfl) ?_
  refine TS.region' (id := 0) (b := false) (ops := c59.s1.rops) (by kernel_rfl) rfl ?_
  refine TI.run 3 [2, 3] [0, 1] (a2 := (st 16 [(2, .pointer (some ⟨0, 0, none⟩)), (3, .pointer (some ⟨1, 0, none⟩))])) (h2 := [.cells 23 [.int .i64 p0, .int .i64 p1], .cells 23 [.int .i64 p2, .int .i64 p3]]) (by kernel_rfl) ?_
  refine TI.done (by kernel_rfl) ?_
  refine NX.sq ?_
  refine TS.seq' (x := c59.s2.s1) (y := c59.s2.s2) (by kernel_rfl) ?_
  refine TS.region' (id := 1) (b := false) (ops := c59.s2.s1.rops) (by kernel_rfl) rfl ?_
  refine TI.run 12 [4] [] (a2 := (st 16 [(4, .int .i64 (w64 ((w64 (p0 * p3)) - (w64 (p1 * p2)))))])) (h2 := [.dead, .dead]) (by kernel_rfl) ?_
  refine TI.done (by kernel_rfl) ?_
  refine NX.sq ?_
  refine TS.ret' (by kernel_rfl) ?_
  have hF := Option.some.inj hF
  subst hF
  exact ⟨.inr rfl, rfl, .int .i64 (w64 ((w64 (p0 * p3)) - (w64 (p1 * p2)))), by kernel_rfl, WkV.flat0 (by kernel_rfl) (Nat.le_of_ble_eq_true rfl)⟩
theorem C59 (p0 : Int) (p1 : Int) (p2 : Int) (p3 : Int) (r : Int) (hF : F59 p0 p1 p2 p3 = some r) : PureSim Try.prog 59 [.agg ⟨[.int .i64 p0, .int .i64 p1]⟩, .agg ⟨[.int .i64 p2, .int .i64 p3]⟩] [] (V59 0 r) (N59 0 r) :=
  PureSim.of_Fin Try.func59 (c := c59) (by kernel_rfl) (by kernel_rfl) 0 rfl [0, 1] [] (by kernel_rfl) (B59 p0 p1 p2 p3 r hF)

-- agonic/magnet.Check
noncomputable def c20 : Code := Try.f20.code
def F20 (p0 : Int) (p1 : Int) (p2 : Int) (p3 : Int) : Option Int :=
  F58 p0 p1 1000 >>= fun r1 =>
  (
    if r1 then
      F58 p2 p3 1000 >>= fun r3 =>
      if r3 then
        some (false)
      else
        some (true)
    else
      some (true)
  : Option Bool) >>= fun m5 =>
  if m5 then
    some 1
  else
    F59 p0 p1 p2 p3 >>= fun r6 =>
    if r6 == 0 then
      some 15
    else
      some 0
def V20 (b : Nat) (r : Int) : Value := .int .i64 r
def N20 (b : Nat) (r : Int) : List Blk := []
theorem B20 (p0 : Int) (p1 : Int) (p2 : Int) (p3 : Int) (r : Int) (hF : F20 p0 p1 p2 p3 = some r) : TS Try.prog 0 0 c20 (st 21 [(0, .agg ⟨[.int .i64 p0, .int .i64 p1, .int .i64 p2, .int .i64 p3]⟩)]) [] (NX Try.prog 0 0 [] (FinP Try.prog Try.f20 0 (V20 0 r) (N20 0 r))) := by
  unfold F20 at hF
  refine TS.seq' (x := c20.s1) (y := c20.s2) (by kernel_rfl) ?_
  refine TS.region' (id := 0) (b := false) (ops := c20.s1.rops) (by kernel_rfl) rfl ?_
  refine TI.run 2 [1] [0] (a2 := (st 21 [(1, .pointer (some ⟨0, 0, none⟩))])) (h2 := [.cells 25 [.int .i64 p0, .int .i64 p1, .int .i64 p2, .int .i64 p3]]) (by kernel_rfl) ?_
  refine TI.done (by kernel_rfl) ?_
  refine NX.sq ?_
  refine TS.seq' (x := c20.s2.s1) (y := c20.s2.s2) (by kernel_rfl) ?_
  refine TS.block' (id := 0) (x := c20.s2.s1.bd) (by kernel_rfl) ?_
  refine TS.seq' (x := c20.s2.s1.bd.s1) (y := c20.s2.s1.bd.s2) (by kernel_rfl) ?_
  have hX := of_do hF
  clear hF
  obtain ⟨r1, h2, hF⟩ := hX
  have hX := of_do hF
  clear hF
  obtain ⟨m5, hm9, hF⟩ := hX
  have hK : NX Try.prog 0 0 [.sq c20.s2.s1.bd.s2, .bk 0, .sq c20.s2.s2] (FinP Try.prog Try.f20 0 (V20 0 r) (N20 0 r)) .normal (st 21 [(1, .pointer (some ⟨0, 0, none⟩)), (3, .bool m5)]) [.cells 25 [.int .i64 p0, .int .i64 p1, .int .i64 p2, .int .i64 p3]] := by
    refine NX.sq ?_
    cases m5 with
    | true =>
      replace hF := of_pos hF rfl
      refine TS.condT' (o := (.tmp 3)) (x := c20.s2.s1.bd.s2.th) (y := c20.s2.s1.bd.s2.el) (by kernel_rfl) (by kernel_rfl) ?_
      refine TS.seq' (x := c20.s2.s1.bd.s2.th.s1) (y := c20.s2.s1.bd.s2.th.s2) (by kernel_rfl) ?_
      refine TS.region' (id := 2) (b := false) (ops := c20.s2.s1.bd.s2.th.s1.rops) (by kernel_rfl) rfl ?_
      refine TI.run 1 [2] [] (a2 := (st 21 [(2, .int .i64 1)])) (h2 := [.dead]) (by kernel_rfl) ?_
      refine TI.done (by kernel_rfl) ?_
      refine NX.sq ?_
      refine TS.ret' (by kernel_rfl) ?_
      refine NX.bkR ?_
      refine NX.sqR ?_
      have hF := Option.some.inj hF
      subst hF
      exact ⟨.inr rfl, rfl, .int .i64 1, by kernel_rfl, WkV.flat0 (by kernel_rfl) (Nat.le_of_ble_eq_true rfl)⟩
    | false =>
      replace hF := of_neg hF rfl
      refine TS.condF' (o := (.tmp 3)) (x := c20.s2.s1.bd.s2.th) (y := c20.s2.s1.bd.s2.el) (by kernel_rfl) (by kernel_rfl) ?_
      refine TS.seq' (x := c20.s2.s1.bd.s2.el.s1) (y := c20.s2.s1.bd.s2.el.s2) (by kernel_rfl) ?_
      have hX := of_do hF
      clear hF
      obtain ⟨r6, h7, hF⟩ := hX
      refine TS.region' (id := 3) (b := false) (ops := c20.s2.s1.bd.s2.el.s1.rops) (by kernel_rfl) rfl ?_
      refine TI.run 4 [16, 18] [] (a2 := (st 21 [(16, .agg ⟨[.int .i64 p0, .int .i64 p1]⟩), (18, .agg ⟨[.int .i64 p2, .int .i64 p3]⟩)])) (h2 := [.dead]) (by kernel_rfl) ?_
      refine TI.callM (g := 59) (args := [.agg ⟨[.int .i64 p0, .int .i64 p1]⟩, .agg ⟨[.int .i64 p2, .int .i64 p3]⟩]) (v := .int .i64 r6) (new := []) (by kernel_rfl) (PureSim.any (C59 p0 p1 p2 p3 r6 h7) (flatL (by kernel_rfl)) (by kernel_rfl) [.dead]) [19] [] (a2 := (st 21 [(19, .int .i64 r6)])) (h2 := [.dead]) (by kernel_rfl) ?_
      refine TI.run 2 [14] [] (a2 := (st 21 [(14, .bool (r6 == 0))])) (h2 := [.dead]) (by kernel_rfl) ?_
      refine TI.done (by kernel_rfl) ?_
      refine NX.sq ?_
      refine TS.cond' (o := (.tmp 14)) (x := c20.s2.s1.bd.s2.el.s2.th) (y := c20.s2.s1.bd.s2.el.s2.el) (b := r6 == 0) (by kernel_rfl) (by kernel_rfl) (fun hc8 => ?_) (fun hc8 => ?_)
      · replace hF := of_pos hF hc8
        refine TS.seq' (x := c20.s2.s1.bd.s2.el.s2.th.s1) (y := c20.s2.s1.bd.s2.el.s2.th.s2) (by kernel_rfl) ?_
        refine TS.region' (id := 4) (b := false) (ops := c20.s2.s1.bd.s2.el.s2.th.s1.rops) (by kernel_rfl) rfl ?_
        refine TI.run 1 [2] [] (a2 := (st 21 [(2, .int .i64 15)])) (h2 := [.dead]) (by kernel_rfl) ?_
        refine TI.done (by kernel_rfl) ?_
        refine NX.sq ?_
        refine TS.ret' (by kernel_rfl) ?_
        refine NX.bkR ?_
        refine NX.sqR ?_
        have hF := Option.some.inj hF
        subst hF
        exact ⟨.inr rfl, rfl, .int .i64 15, by kernel_rfl, WkV.flat0 (by kernel_rfl) (Nat.le_of_ble_eq_true rfl)⟩
      · replace hF := of_neg hF hc8
        refine TS.skip' (by kernel_rfl) ?_
        refine NX.bk ?_
        refine NX.sq ?_
        refine TS.seq' (x := c20.s2.s2.s1) (y := c20.s2.s2.s2) (by kernel_rfl) ?_
        refine TS.region' (id := 5) (b := false) (ops := c20.s2.s2.s1.rops) (by kernel_rfl) rfl ?_
        refine TI.run 1 [2] [] (a2 := (st 21 [(2, .int .i64 0)])) (h2 := [.dead]) (by kernel_rfl) ?_
        refine TI.done (by kernel_rfl) ?_
        refine NX.sq ?_
        refine TS.ret' (by kernel_rfl) ?_
        have hF := Option.some.inj hF
        subst hF
        exact ⟨.inr rfl, rfl, .int .i64 0, by kernel_rfl, WkV.flat0 (by kernel_rfl) (Nat.le_of_ble_eq_true rfl)⟩
  cases r1 with
  | true =>
    replace hm9 := of_pos hm9 rfl
    have hX := of_do hm9
    clear hm9
    obtain ⟨r3, h4, hm9⟩ := hX
    cases r3 with
    | true =>
      replace hm9 := of_pos hm9 rfl
      have hm9 := Option.some.inj hm9
      subst hm9
      refine TS.region' (id := 1) (b := false) (ops := c20.s2.s1.bd.s1.rops) (by kernel_rfl) rfl ?_
      refine TI.run 2 [1, 5] [0] (a2 := (st 21 [(1, .pointer (some ⟨0, 0, none⟩)), (5, .agg ⟨[.int .i64 p0, .int .i64 p1]⟩)])) (h2 := [.cells 25 [.int .i64 p0, .int .i64 p1, .int .i64 p2, .int .i64 p3]]) (by kernel_rfl) ?_
      refine TI.callM (g := 58) (args := [.agg ⟨[.int .i64 p0, .int .i64 p1]⟩, .int .i64 1000]) (v := .bool true) (new := []) (by kernel_rfl) (PureSim.any (C58 p0 p1 1000 true h2) (flatL (by kernel_rfl)) (by kernel_rfl) [.cells 25 [.int .i64 p0, .int .i64 p1, .int .i64 p2, .int .i64 p3]]) [1, 6] [0] (a2 := (st 21 [(1, .pointer (some ⟨0, 0, none⟩)), (6, .bool true)])) (h2 := [.cells 25 [.int .i64 p0, .int .i64 p1, .int .i64 p2, .int .i64 p3]]) (by kernel_rfl) ?_
      refine TI.run 4 [1, 8, 10] [0] (a2 := (st 21 [(1, .pointer (some ⟨0, 0, none⟩)), (8, .bool false), (10, .agg ⟨[.int .i64 p2, .int .i64 p3]⟩)])) (h2 := [.cells 25 [.int .i64 p0, .int .i64 p1, .int .i64 p2, .int .i64 p3]]) (by kernel_rfl) ?_
      refine TI.callM (g := 58) (args := [.agg ⟨[.int .i64 p2, .int .i64 p3]⟩, .int .i64 1000]) (v := .bool true) (new := []) (by kernel_rfl) (PureSim.any (C58 p2 p3 1000 true h4) (flatL (by kernel_rfl)) (by kernel_rfl) [.cells 25 [.int .i64 p0, .int .i64 p1, .int .i64 p2, .int .i64 p3]]) [1, 8, 11] [0] (a2 := (st 21 [(1, .pointer (some ⟨0, 0, none⟩)), (8, .bool false), (11, .bool true)])) (h2 := [.cells 25 [.int .i64 p0, .int .i64 p1, .int .i64 p2, .int .i64 p3]]) (by kernel_rfl) ?_
      refine TI.run 3 [1, 3] [0] (a2 := (st 21 [(1, .pointer (some ⟨0, 0, none⟩)), (3, .bool false)])) (h2 := [.cells 25 [.int .i64 p0, .int .i64 p1, .int .i64 p2, .int .i64 p3]]) (by kernel_rfl) ?_
      refine TI.done (by kernel_rfl) ?_
      exact hK
    | false =>
      replace hm9 := of_neg hm9 rfl
      have hm9 := Option.some.inj hm9
      subst hm9
      refine TS.region' (id := 1) (b := false) (ops := c20.s2.s1.bd.s1.rops) (by kernel_rfl) rfl ?_
      refine TI.run 2 [1, 5] [0] (a2 := (st 21 [(1, .pointer (some ⟨0, 0, none⟩)), (5, .agg ⟨[.int .i64 p0, .int .i64 p1]⟩)])) (h2 := [.cells 25 [.int .i64 p0, .int .i64 p1, .int .i64 p2, .int .i64 p3]]) (by kernel_rfl) ?_
      refine TI.callM (g := 58) (args := [.agg ⟨[.int .i64 p0, .int .i64 p1]⟩, .int .i64 1000]) (v := .bool true) (new := []) (by kernel_rfl) (PureSim.any (C58 p0 p1 1000 true h2) (flatL (by kernel_rfl)) (by kernel_rfl) [.cells 25 [.int .i64 p0, .int .i64 p1, .int .i64 p2, .int .i64 p3]]) [1, 6] [0] (a2 := (st 21 [(1, .pointer (some ⟨0, 0, none⟩)), (6, .bool true)])) (h2 := [.cells 25 [.int .i64 p0, .int .i64 p1, .int .i64 p2, .int .i64 p3]]) (by kernel_rfl) ?_
      refine TI.run 4 [1, 8, 10] [0] (a2 := (st 21 [(1, .pointer (some ⟨0, 0, none⟩)), (8, .bool false), (10, .agg ⟨[.int .i64 p2, .int .i64 p3]⟩)])) (h2 := [.cells 25 [.int .i64 p0, .int .i64 p1, .int .i64 p2, .int .i64 p3]]) (by kernel_rfl) ?_
      refine TI.callM (g := 58) (args := [.agg ⟨[.int .i64 p2, .int .i64 p3]⟩, .int .i64 1000]) (v := .bool false) (new := []) (by kernel_rfl) (PureSim.any (C58 p2 p3 1000 false h4) (flatL (by kernel_rfl)) (by kernel_rfl) [.cells 25 [.int .i64 p0, .int .i64 p1, .int .i64 p2, .int .i64 p3]]) [1, 8, 11] [0] (a2 := (st 21 [(1, .pointer (some ⟨0, 0, none⟩)), (8, .bool false), (11, .bool false)])) (h2 := [.cells 25 [.int .i64 p0, .int .i64 p1, .int .i64 p2, .int .i64 p3]]) (by kernel_rfl) ?_
      refine TI.run 3 [1, 3] [0] (a2 := (st 21 [(1, .pointer (some ⟨0, 0, none⟩)), (3, .bool true)])) (h2 := [.cells 25 [.int .i64 p0, .int .i64 p1, .int .i64 p2, .int .i64 p3]]) (by kernel_rfl) ?_
      refine TI.done (by kernel_rfl) ?_
      exact hK
  | false =>
    replace hm9 := of_neg hm9 rfl
    have hm9 := Option.some.inj hm9
    subst hm9
    refine TS.region' (id := 1) (b := false) (ops := c20.s2.s1.bd.s1.rops) (by kernel_rfl) rfl ?_
    refine TI.run 2 [1, 5] [0] (a2 := (st 21 [(1, .pointer (some ⟨0, 0, none⟩)), (5, .agg ⟨[.int .i64 p0, .int .i64 p1]⟩)])) (h2 := [.cells 25 [.int .i64 p0, .int .i64 p1, .int .i64 p2, .int .i64 p3]]) (by kernel_rfl) ?_
    refine TI.callM (g := 58) (args := [.agg ⟨[.int .i64 p0, .int .i64 p1]⟩, .int .i64 1000]) (v := .bool false) (new := []) (by kernel_rfl) (PureSim.any (C58 p0 p1 1000 false h2) (flatL (by kernel_rfl)) (by kernel_rfl) [.cells 25 [.int .i64 p0, .int .i64 p1, .int .i64 p2, .int .i64 p3]]) [1, 6] [0] (a2 := (st 21 [(1, .pointer (some ⟨0, 0, none⟩)), (6, .bool false)])) (h2 := [.cells 25 [.int .i64 p0, .int .i64 p1, .int .i64 p2, .int .i64 p3]]) (by kernel_rfl) ?_
    refine TI.run 8 [1, 3] [0] (a2 := (st 21 [(1, .pointer (some ⟨0, 0, none⟩)), (3, .bool true)])) (h2 := [.cells 25 [.int .i64 p0, .int .i64 p1, .int .i64 p2, .int .i64 p3]]) (by kernel_rfl) ?_
    refine TI.done (by kernel_rfl) ?_
    exact hK
theorem C20 (p0 : Int) (p1 : Int) (p2 : Int) (p3 : Int) (r : Int) (hF : F20 p0 p1 p2 p3 = some r) : PureSim Try.prog 20 [.agg ⟨[.int .i64 p0, .int .i64 p1, .int .i64 p2, .int .i64 p3]⟩] [] (V20 0 r) (N20 0 r) :=
  PureSim.of_Fin Try.func20 (c := c20) (by kernel_rfl) (by kernel_rfl) 0 rfl [0] [] (by kernel_rfl) (B20 p0 p1 p2 p3 r hF)

-- (agonic/magnet.Vector).dot
noncomputable def c72 : Code := Try.f72.code
def F72 (p0 : Int) (p1 : Int) (p2 : Int) (p3 : Int) : Option Int :=
  some (w64 ((w64 (p0 * p2)) + (w64 (p1 * p3))))
def V72 (b : Nat) (r : Int) : Value := .int .i64 r
def N72 (b : Nat) (r : Int) : List Blk := []
theorem B72 (p0 : Int) (p1 : Int) (p2 : Int) (p3 : Int) (r : Int) (hF : F72 p0 p1 p2 p3 = some r) : TS Try.prog 0 0 c72 (st 16 [(0, .agg ⟨[.int .i64 p0, .int .i64 p1]⟩), (1, .agg ⟨[.int .i64 p2, .int .i64 p3]⟩)]) [] (NX Try.prog 0 0 [] (FinP Try.prog Try.f72 0 (V72 0 r) (N72 0 r))) := by
  unfold F72 at hF
  refine TS.seq' (x := c72.s1) (y := c72.s2) (by kernel_rfl) ?_
  refine TS.region' (id := 0) (b := false) (ops := c72.s1.rops) (by kernel_rfl) rfl ?_
  refine TI.run 3 [2, 3] [0, 1] (a2 := (st 16 [(2, .pointer (some ⟨0, 0, none⟩)), (3, .pointer (some ⟨1, 0, none⟩))])) (h2 := [.cells 23 [.int .i64 p0, .int .i64 p1], .cells 23 [.int .i64 p2, .int .i64 p3]]) (by kernel_rfl) ?_
  refine TI.done (by kernel_rfl) ?_
  refine NX.sq ?_
  refine TS.seq' (x := c72.s2.s1) (y := c72.s2.s2) (by kernel_rfl) ?_
  refine TS.region' (id := 1) (b := false) (ops := c72.s2.s1.rops) (by kernel_rfl) rfl ?_
  refine TI.run 12 [4] [] (a2 := (st 16 [(4, .int .i64 (w64 ((w64 (p0 * p2)) + (w64 (p1 * p3)))))])) (h2 := [.dead, .dead]) (by kernel_rfl) ?_
  refine TI.done (by kernel_rfl) ?_
  refine NX.sq ?_
  refine TS.ret' (by kernel_rfl) ?_
  have hF := Option.some.inj hF
  subst hF
  exact ⟨.inr rfl, rfl, .int .i64 (w64 ((w64 (p0 * p2)) + (w64 (p1 * p3)))), by kernel_rfl, WkV.flat0 (by kernel_rfl) (Nat.le_of_ble_eq_true rfl)⟩
theorem C72 (p0 : Int) (p1 : Int) (p2 : Int) (p3 : Int) (r : Int) (hF : F72 p0 p1 p2 p3 = some r) : PureSim Try.prog 72 [.agg ⟨[.int .i64 p0, .int .i64 p1]⟩, .agg ⟨[.int .i64 p2, .int .i64 p3]⟩] [] (V72 0 r) (N72 0 r) :=
  PureSim.of_Fin Try.func72 (c := c72) (by kernel_rfl) (by kernel_rfl) 0 rfl [0, 1] [] (by kernel_rfl) (B72 p0 p1 p2 p3 r hF)

-- (agonic/magnet.Vector).square
noncomputable def c63 : Code := Try.f63.code
def F63 (p0 : Int) (p1 : Int) : Option Int :=
  F72 p0 p1 p0 p1 >>= fun r1 =>
  some r1
def V63 (b : Nat) (r : Int) : Value := .int .i64 r
def N63 (b : Nat) (r : Int) : List Blk := []
theorem B63 (p0 : Int) (p1 : Int) (r : Int) (hF : F63 p0 p1 = some r) : TS Try.prog 0 0 c63 (st 6 [(0, .agg ⟨[.int .i64 p0, .int .i64 p1]⟩)]) [] (NX Try.prog 0 0 [] (FinP Try.prog Try.f63 0 (V63 0 r) (N63 0 r))) := by
  unfold F63 at hF
  refine TS.seq' (x := c63.s1) (y := c63.s2) (by kernel_rfl) ?_
  refine TS.region' (id := 0) (b := false) (ops := c63.s1.rops) (by kernel_rfl) rfl ?_
  refine TI.run 2 [1] [0] (a2 := (st 6 [(1, .pointer (some ⟨0, 0, none⟩))])) (h2 := [.cells 23 [.int .i64 p0, .int .i64 p1]]) (by kernel_rfl) ?_
  refine TI.done (by kernel_rfl) ?_
  refine NX.sq ?_
  refine TS.seq' (x := c63.s2.s1) (y := c63.s2.s2) (by kernel_rfl) ?_
  have hX := of_do hF
  clear hF
  obtain ⟨r1, h2, hF⟩ := hX
  refine TS.region' (id := 1) (b := false) (ops := c63.s2.s1.rops) (by kernel_rfl) rfl ?_
  refine TI.run 2 [3, 4] [] (a2 := (st 6 [(3, .agg ⟨[.int .i64 p0, .int .i64 p1]⟩), (4, .agg ⟨[.int .i64 p0, .int .i64 p1]⟩)])) (h2 := [.dead]) (by kernel_rfl) ?_
  refine TI.callM (g := 72) (args := [.agg ⟨[.int .i64 p0, .int .i64 p1]⟩, .agg ⟨[.int .i64 p0, .int .i64 p1]⟩]) (v := .int .i64 r1) (new := []) (by kernel_rfl) (PureSim.any (C72 p0 p1 p0 p1 r1 h2) (flatL (by kernel_rfl)) (by kernel_rfl) [.dead]) [5] [] (a2 := (st 6 [(5, .int .i64 r1)])) (h2 := [.dead]) (by kernel_rfl) ?_
  refine TI.run 1 [2] [] (a2 := (st 6 [(2, .int .i64 r1)])) (h2 := [.dead]) (by kernel_rfl) ?_
  refine TI.done (by kernel_rfl) ?_
  refine NX.sq ?_
  refine TS.ret' (by kernel_rfl) ?_
  have hF := Option.some.inj hF
  subst hF
  exact ⟨.inr rfl, rfl, .int .i64 r1, by kernel_rfl, WkV.flat0 (by kernel_rfl) (Nat.le_of_ble_eq_true rfl)⟩
theorem C63 (p0 : Int) (p1 : Int) (r : Int) (hF : F63 p0 p1 = some r) : PureSim Try.prog 63 [.agg ⟨[.int .i64 p0, .int .i64 p1]⟩] [] (V63 0 r) (N63 0 r) :=
  PureSim.of_Fin Try.func63 (c := c63) (by kernel_rfl) (by kernel_rfl) 0 rfl [0] [] (by kernel_rfl) (B63 p0 p1 r hF)

-- agonic/magnet.floor
noncomputable def c69 : Code := Try.f69.code
def F69 (p0 : Int) (p1 : Int) : Option Int :=
  (
    if decide (p1 < 0) then
      some (w64 (0 - p0), w64 (0 - p1))
    else
      some (p0, p1)
  : Option (Int × Int)) >>= fun m6 =>
  if m6.2 = 0 then none else
  some (w64 (m6.1 - (Int.tmod (w64 ((Int.tmod m6.1 m6.2) + m6.2)) m6.2))) >>= fun o9 =>
  some (w64 (Int.tdiv o9 m6.2))
def V69 (b : Nat) (r : Int) : Value := .int .i64 r
def N69 (b : Nat) (r : Int) : List Blk := []
theorem B69 (p0 : Int) (p1 : Int) (r : Int) (hF : F69 p0 p1 = some r) : TS Try.prog 0 0 c69 (st 22 [(0, .int .i64 p0), (1, .int .i64 p1)]) [] (NX Try.prog 0 0 [] (FinP Try.prog Try.f69 0 (V69 0 r) (N69 0 r))) := by
  unfold F69 at hF
  refine TS.seq' (x := c69.s1) (y := c69.s2) (by kernel_rfl) ?_
  refine TS.region' (id := 0) (b := false) (ops := c69.s1.rops) (by kernel_rfl) rfl ?_
  refine TI.run 1 [0, 1] [] (a2 := (st 22 [(0, .int .i64 p0), (1, .int .i64 p1)])) (h2 := []) (by kernel_rfl) ?_
  refine TI.done (by kernel_rfl) ?_
  refine NX.sq ?_
  refine TS.seq' (x := c69.s2.s1) (y := c69.s2.s2) (by kernel_rfl) ?_
  refine TS.seq' (x := c69.s2.s1.s1) (y := c69.s2.s1.s2) (by kernel_rfl) ?_
  refine TS.region' (id := 1) (b := false) (ops := c69.s2.s1.s1.rops) (by kernel_rfl) rfl ?_
  refine TI.run 2 [0, 1, 6] [] (a2 := (st 22 [(0, .int .i64 p0), (1, .int .i64 p1), (6, .bool (decide (p1 < 0)))])) (h2 := []) (by kernel_rfl) ?_
  refine TI.done (by kernel_rfl) ?_
  refine NX.sq ?_
  have hX := of_do hF
  clear hF
  obtain ⟨m6, hm7, hF⟩ := hX
  have hK : NX Try.prog 0 0 [.sq c69.s2.s2] (FinP Try.prog Try.f69 0 (V69 0 r) (N69 0 r)) .normal (st 22 [(0, .int .i64 m6.1), (1, .int .i64 m6.2)]) [] := by
    refine NX.sq ?_
    refine TS.seq' (x := c69.s2.s2.s1) (y := c69.s2.s2.s2) (by kernel_rfl) ?_
    have hX := of_guardn hF
    clear hF
    obtain ⟨hg8, hF⟩ := hX
    have hX := of_do hF
    clear hF
    obtain ⟨o9, h10, hF⟩ := hX
    replace h10 := Option.some.inj h10
    refine TS.region' (id := 3) (b := false) (ops := c69.s2.s2.s1.rops) (by kernel_rfl) rfl ?_
    refine TI.run 3 [1, 11, 12, 13] [] (a2 := (st 22 [(1, .int .i64 m6.2), (11, .int .i64 m6.1), (12, .int .i64 m6.1), (13, .int .i64 m6.2)])) (h2 := []) (by kernel_rfl) ?_
    refine TI.op (q := { val := .int .i64 (Int.tmod m6.1 m6.2) }) (q_int (P := Try.prog) (op := .rem) (ty := 3) (ox := (.tmp 12)) (oy := (.tmp 13)) (k := .i64) (k' := .i64) (y := m6.1) (z := m6.2) (by kernel_rfl) (rem_ok hg8)) [1, 11, 14] [] (a2 := (st 22 [(1, .int .i64 m6.2), (11, .int .i64 m6.1), (14, .int .i64 (Int.tmod m6.1 m6.2))])) (h2 := []) (by kernel_rfl) ?_
    refine TI.run 3 [1, 11, 16, 17] [] (a2 := (st 22 [(1, .int .i64 m6.2), (11, .int .i64 m6.1), (16, .int .i64 (w64 ((Int.tmod m6.1 m6.2) + m6.2))), (17, .int .i64 m6.2)])) (h2 := []) (by kernel_rfl) ?_
    refine TI.op (q := { val := .int .i64 (Int.tmod (w64 ((Int.tmod m6.1 m6.2) + m6.2)) m6.2) }) (q_int (P := Try.prog) (op := .rem) (ty := 3) (ox := (.tmp 16)) (oy := (.tmp 17)) (k := .i64) (k' := .i64) (y := w64 ((Int.tmod m6.1 m6.2) + m6.2)) (z := m6.2) (by kernel_rfl) (rem_ok hg8)) [1, 11, 18] [] (a2 := (st 22 [(1, .int .i64 m6.2), (11, .int .i64 m6.1), (18, .int .i64 (Int.tmod (w64 ((Int.tmod m6.1 m6.2) + m6.2)) m6.2))])) (h2 := []) (by kernel_rfl) ?_
    refine TI.op (q := { val := .int .i64 o9 }) (q_convI (e := w64 (m6.1 - (Int.tmod (w64 ((Int.tmod m6.1 m6.2) + m6.2)) m6.2))) (y := o9) (by kernel_rfl) h10) [1, 19] [] (a2 := (st 22 [(1, .int .i64 m6.2), (19, .int .i64 o9)])) (h2 := []) (by kernel_rfl) ?_
    refine TI.run 1 [19, 20] [] (a2 := (st 22 [(19, .int .i64 o9), (20, .int .i64 m6.2)])) (h2 := []) (by kernel_rfl) ?_
    refine TI.op (q := { val := .int .i64 (w64 (Int.tdiv o9 m6.2)) }) (q_int (P := Try.prog) (op := .quo) (ty := 3) (ox := (.tmp 19)) (oy := (.tmp 20)) (k := .i64) (k' := .i64) (y := o9) (z := m6.2) (by kernel_rfl) (quo_ok hg8)) [21] [] (a2 := (st 22 [(21, .int .i64 (w64 (Int.tdiv o9 m6.2)))])) (h2 := []) (by kernel_rfl) ?_
    refine TI.run 1 [4] [] (a2 := (st 22 [(4, .int .i64 (w64 (Int.tdiv o9 m6.2)))])) (h2 := []) (by kernel_rfl) ?_
    refine TI.done (by kernel_rfl) ?_
    refine NX.sq ?_
    refine TS.ret' (by kernel_rfl) ?_
    have hF := Option.some.inj hF
    subst hF
    exact ⟨.inr rfl, rfl, .int .i64 (w64 (Int.tdiv o9 m6.2)), by kernel_rfl, WkV.flat0 (by kernel_rfl) (Nat.le_of_ble_eq_true rfl)⟩
  clear hF
  have hF := hm7
  clear hm7
  refine TS.start ?_
  refine TS.cond' (o := (.tmp 6)) (x := c69.s2.s1.s2.th) (y := c69.s2.s1.s2.el) (b := decide (p1 < 0)) (by kernel_rfl) (by kernel_rfl) (fun hc11 => ?_) (fun hc11 => ?_)
  · replace hF := of_pos hF hc11
    refine TS.region' (id := 2) (b := false) (ops := c69.s2.s1.s2.th.rops) (by kernel_rfl) rfl ?_
    refine TI.run 6 [0, 1] [] (a2 := (st 22 [(0, .int .i64 (w64 (0 - p0))), (1, .int .i64 (w64 (0 - p1)))])) (h2 := []) (by kernel_rfl) ?_
    refine TI.done (by kernel_rfl) ?_
    have hF := Option.some.inj hF
    subst hF
    exact TS.weak (Wk.anew (base := 0) (L := 0) (f := []) (by decide) (by decide) (Nat.le_of_ble_eq_true rfl) rfl (.nil _) (LRn.stx [0, 1] [.int .i64 (w64 (0 - p0)), .int .i64 (w64 (0 - p1))] [.int .i64 (w64 (0 - p0)), .int .i64 (w64 (0 - p1))] (.cons (.flat (by kernel_rfl)) (.cons (.flat (by kernel_rfl)) .nil)) (by kernel_rfl) (by kernel_rfl) rfl) rfl rfl) hK
  · replace hF := of_neg hF hc11
    refine TS.skip' (by kernel_rfl) ?_
    have hF := Option.some.inj hF
    subst hF
    exact TS.weak (Wk.anew (base := 0) (L := 0) (f := []) (by decide) (by decide) (Nat.le_of_ble_eq_true rfl) rfl (.nil _) (LRn.stx [0, 1] [.int .i64 p0, .int .i64 p1] [.int .i64 p0, .int .i64 p1] (.cons (.flat (by kernel_rfl)) (.cons (.flat (by kernel_rfl)) .nil)) (by kernel_rfl) (by kernel_rfl) rfl) rfl rfl) hK
theorem C69 (p0 : Int) (p1 : Int) (r : Int) (hF : F69 p0 p1 = some r) : PureSim Try.prog 69 [.int .i64 p0, .int .i64 p1] [] (V69 0 r) (N69 0 r) :=
  PureSim.of_Fin Try.func69 (c := c69) (by kernel_rfl) (by kernel_rfl) 0 rfl [0, 1] [] (by kernel_rfl) (B69 p0 p1 r hF)

-- (agonic/magnet.Vector).plus
noncomputable def c53 : Code := Try.f53.code
def F53 (p0 : Int) (p1 : Int) (p2 : Int) (p3 : Int) (p4 : Int) : Option (Int × Int) :=
  some (w64 (p0 + (w64 (p2 * p3))), w64 (p1 + (w64 (p2 * p4))))
def V53 (b : Nat) (r : (Int × Int)) : Value := .agg ⟨[.int .i64 r.1, .int .i64 r.2]⟩
def N53 (b : Nat) (r : (Int × Int)) : List Blk := []
theorem B53 (p0 : Int) (p1 : Int) (p2 : Int) (p3 : Int) (p4 : Int) (r : (Int × Int)) (hF : F53 p0 p1 p2 p3 p4 = some r) : TS Try.prog 0 0 c53 (st 22 [(0, .agg ⟨[.int .i64 p0, .int .i64 p1]⟩), (1, .int .i64 p2), (2, .agg ⟨[.int .i64 p3, .int .i64 p4]⟩)]) [] (NX Try.prog 0 0 [] (FinP Try.prog Try.f53 0 (V53 0 r) (N53 0 r))) := by
  unfold F53 at hF
  refine TS.seq' (x := c53.s1) (y := c53.s2) (by kernel_rfl) ?_
  refine TS.region' (id := 0) (b := false) (ops := c53.s1.rops) (by kernel_rfl) rfl ?_
  refine TI.run 3 [1, 3, 5, 6] [0, 1, 2] (a2 := (st 22 [(1, .int .i64 p2), (3, .pointer (some ⟨0, 0, none⟩)), (5, .pointer (some ⟨1, 0, none⟩)), (6, .pointer (some ⟨2, 0, none⟩))])) (h2 := [.cells 23 [.int .i64 p0, .int .i64 p1], .cells 23 [.int .i64 p3, .int .i64 p4], .cells 23 [.int .i64 0, .int .i64 0]]) (by kernel_rfl) ?_
  refine TI.done (by kernel_rfl) ?_
  refine NX.sq ?_
  refine TS.seq' (x := c53.s2.s1) (y := c53.s2.s2) (by kernel_rfl) ?_
  refine TS.region' (id := 1) (b := false) (ops := c53.s2.s1.rops) (by kernel_rfl) rfl ?_
  refine TI.run 16 [6] [2] (a2 := (st 22 [(6, .pointer (some ⟨2, 0, none⟩))])) (h2 := [.dead, .dead, .cells 23 [.int .i64 (w64 (p0 + (w64 (p2 * p3)))), .int .i64 (w64 (p1 + (w64 (p2 * p4))))]]) (by kernel_rfl) ?_
  refine TI.done (by kernel_rfl) ?_
  refine NX.sq ?_
  refine TS.ret' (by kernel_rfl) ?_
  have hF := Option.some.inj hF
  subst hF
  exact ⟨.inr rfl, rfl, .agg ⟨[.int .i64 (w64 (p0 + (w64 (p2 * p3)))), .int .i64 (w64 (p1 + (w64 (p2 * p4))))]⟩, by kernel_rfl, WkV.flat0 (by kernel_rfl) (Nat.le_of_ble_eq_true rfl)⟩
theorem C53 (p0 : Int) (p1 : Int) (p2 : Int) (p3 : Int) (p4 : Int) (r : (Int × Int)) (hF : F53 p0 p1 p2 p3 p4 = some r) : PureSim Try.prog 53 [.agg ⟨[.int .i64 p0, .int .i64 p1]⟩, .int .i64 p2, .agg ⟨[.int .i64 p3, .int .i64 p4]⟩] [] (V53 0 r) (N53 0 r) :=
  PureSim.of_Fin Try.func53 (c := c53) (by kernel_rfl) (by kernel_rfl) 0 rfl [0, 1, 2] [] (by kernel_rfl) (B53 p0 p1 p2 p3 p4 r hF)

-- (agonic/magnet.Choice).plus
noncomputable def c78 : Code := Try.f78.code
def F78 (p0 : Int) (p1 : Int) (p2 : Int) (p3 : Int) (p4 : Int) : Option (Int × Int) :=
  some (w64 (p0 + (w64 (p2 * p3))), w64 (p1 + (w64 (p2 * p4))))
def V78 (b : Nat) (r : (Int × Int)) : Value := .agg ⟨[.int .i64 r.1, .int .i64 r.2]⟩
def N78 (b : Nat) (r : (Int × Int)) : List Blk := []
theorem B78 (p0 : Int) (p1 : Int) (p2 : Int) (p3 : Int) (p4 : Int) (r : (Int × Int)) (hF : F78 p0 p1 p2 p3 p4 = some r) : TS Try.prog 0 0 c78 (st 22 [(0, .agg ⟨[.int .i64 p0, .int .i64 p1]⟩), (1, .int .i64 p2), (2, .agg ⟨[.int .i64 p3, .int .i64 p4]⟩)]) [] (NX Try.prog 0 0 [] (FinP Try.prog Try.f78 0 (V78 0 r) (N78 0 r))) := by
  unfold F78 at hF
  refine TS.seq' (x := c78.s1) (y := c78.s2) (by kernel_rfl) ?_
  refine TS.region' (id := 0) (b := false) (ops := c78.s1.rops) (by kernel_rfl) rfl ?_
  refine TI.run 3 [1, 3, 5, 6] [0, 1, 2] (a2 := (st 22 [(1, .int .i64 p2), (3, .pointer (some ⟨0, 0, none⟩)), (5, .pointer (some ⟨1, 0, none⟩)), (6, .pointer (some ⟨2, 0, none⟩))])) (h2 := [.cells 27 [.int .i64 p0, .int .i64 p1], .cells 27 [.int .i64 p3, .int .i64 p4], .cells 27 [.int .i64 0, .int .i64 0]]) (by kernel_rfl) ?_
  refine TI.done (by kernel_rfl) ?_
  refine NX.sq ?_
  refine TS.seq' (x := c78.s2.s1) (y := c78.s2.s2) (by kernel_rfl) ?_
  refine TS.region' (id := 1) (b := false) (ops := c78.s2.s1.rops) (by kernel_rfl) rfl ?_
  refine TI.run 16 [6] [2] (a2 := (st 22 [(6, .pointer (some ⟨2, 0, none⟩))])) (h2 := [.dead, .dead, .cells 27 [.int .i64 (w64 (p0 + (w64 (p2 * p3)))), .int .i64 (w64 (p1 + (w64 (p2 * p4))))]]) (by kernel_rfl) ?_
  refine TI.done (by kernel_rfl) ?_
  refine NX.sq ?_
  refine TS.ret' (by kernel_rfl) ?_
  have hF := Option.some.inj hF
  subst hF
  exact ⟨.inr rfl, rfl, .agg ⟨[.int .i64 (w64 (p0 + (w64 (p2 * p3)))), .int .i64 (w64 (p1 + (w64 (p2 * p4))))]⟩, by kernel_rfl, WkV.flat0 (by kernel_rfl) (Nat.le_of_ble_eq_true rfl)⟩
theorem C78 (p0 : Int) (p1 : Int) (p2 : Int) (p3 : Int) (p4 : Int) (r : (Int × Int)) (hF : F78 p0 p1 p2 p3 p4 = some r) : PureSim Try.prog 78 [.agg ⟨[.int .i64 p0, .int .i64 p1]⟩, .int .i64 p2, .agg ⟨[.int .i64 p3, .int .i64 p4]⟩] [] (V78 0 r) (N78 0 r) :=
  PureSim.of_Fin Try.func78 (c := c78) (by kernel_rfl) (by kernel_rfl) 0 rfl [0, 1, 2] [] (by kernel_rfl) (B78 p0 p1 p2 p3 p4 r hF)

-- (agonic/magnet.Kit).reduce
noncomputable def c61 : Code := Try.f61.code
def F61l0  (z68 : (Int × Int × Int × Int × Int × Int × Int × Int)) : Option (Int × Int × Int × Int × Int × Int × Int × Int) :=
    F72 z68.1 z68.2.1 z68.2.2.1 z68.2.2.2.1 >>= fun r51 =>
    F63 z68.1 z68.2.1 >>= fun r53 =>
    F63 z68.1 z68.2.1 >>= fun r55 =>
    F69 (w64 ((w64 (2 * r51)) + r53)) (w64 (2 * r55)) >>= fun r57 =>
    F53 z68.2.2.1 z68.2.2.2.1 (w64 (0 - r57)) z68.1 z68.2.1 >>= fun r59 =>
    F78 z68.2.2.2.2.2.2.1 z68.2.2.2.2.2.2.2 (w64 (0 - r57)) z68.2.2.2.2.1 z68.2.2.2.2.2.1 >>= fun r61 =>
    F63 z68.1 z68.2.1 >>= fun r63 =>
    F63 r59.1 r59.2 >>= fun r65 =>
    if decide (r63 ≤ r65) then
      some (z68.1, z68.2.1, r59.1, r59.2, z68.2.2.2.2.1, z68.2.2.2.2.2.1, r61.1, r61.2)
    else
      F61l0  (r59.1, r59.2, z68.1, z68.2.1, r61.1, r61.2, z68.2.2.2.2.1, z68.2.2.2.2.2.1)
  partial_fixpoint
def F61 (p0 : Int) (p1 : Int) (p2 : Int) (p3 : Int) : Option (((Int × Int) × (Int × Int)) × (Int × Int) × (Int × Int)) :=
  F61l0  (p0, p1, p2, p3, 1, 0, 0, 1) >>= fun r69 =>
  some (((r69.1, r69.2.1), (r69.2.2.1, r69.2.2.2.1)), (r69.2.2.2.2.1, r69.2.2.2.2.2.1), (r69.2.2.2.2.2.2.1, r69.2.2.2.2.2.2.2))
def V61 (b : Nat) (r : (((Int × Int) × (Int × Int)) × (Int × Int) × (Int × Int))) : Value := .agg ⟨[.int .i64 r.1.1.1, .int .i64 r.1.1.2, .int .i64 r.1.2.1, .int .i64 r.1.2.2, .int .i64 r.2.1.1, .int .i64 r.2.1.2, .int .i64 r.2.2.1, .int .i64 r.2.2.2]⟩
def N61 (b : Nat) (r : (((Int × Int) × (Int × Int)) × (Int × Int) × (Int × Int))) : List Blk := []
def P61l0  (r : (Int × Int × Int × Int × Int × Int × Int × Int)) : Post := fun e a h => e = .ret ∧ Wk Try.prog 0 0 a h (st 73 [(2, .pointer (some ⟨0, 0, none⟩))]) [.cells 108 [.int .i64 r.1, .int .i64 r.2.1, .int .i64 r.2.2.1, .int .i64 r.2.2.2.1, .int .i64 r.2.2.2.2.1, .int .i64 r.2.2.2.2.2.1, .int .i64 r.2.2.2.2.2.2.1, .int .i64 r.2.2.2.2.2.2.2]]
theorem L61l0  (v18 : Int) (v19 : Int) (v20 : Int) (v21 : Int) (v22 : Int) (v23 : Int) (v24 : Int) (v25 : Int) (r : (Int × Int × Int × Int × Int × Int × Int × Int)) (hF : F61l0  (v18, v19, v20, v21, v22, v23, v24, v25) = some r) : TL Try.prog 0 0 c61.s2.s2.bd.bd (st 73 [(2, .pointer (some ⟨0, 0, none⟩)), (3, .pointer (some ⟨1, 0, none⟩))]) [.cells 108 [.int .i64 0, .int .i64 0, .int .i64 0, .int .i64 0, .int .i64 0, .int .i64 0, .int .i64 0, .int .i64 0], .cells 108 [.int .i64 v18, .int .i64 v19, .int .i64 v20, .int .i64 v21, .int .i64 v22, .int .i64 v23, .int .i64 v24, .int .i64 v25]] (P61l0  r) := by
  refine F61l0.partial_correctness  (motive := fun z68 r => TL Try.prog 0 0 c61.s2.s2.bd.bd (st 73 [(2, .pointer (some ⟨0, 0, none⟩)), (3, .pointer (some ⟨1, 0, none⟩))]) [.cells 108 [.int .i64 0, .int .i64 0, .int .i64 0, .int .i64 0, .int .i64 0, .int .i64 0, .int .i64 0, .int .i64 0], .cells 108 [.int .i64 z68.1, .int .i64 z68.2.1, .int .i64 z68.2.2.1, .int .i64 z68.2.2.2.1, .int .i64 z68.2.2.2.2.1, .int .i64 z68.2.2.2.2.2.1, .int .i64 z68.2.2.2.2.2.2.1, .int .i64 z68.2.2.2.2.2.2.2]] (P61l0  r)) ?_ (v18, v19, v20, v21, v22, v23, v24, v25) r hF
  clear hF r v18 v19 v20 v21 v22 v23 v24 v25
  intro again ih z68 r hF
  refine TL.round ?_
  refine TS.block' (id := 1) (x := c61.s2.s2.bd.bd.bd) (by kernel_rfl) ?_
  refine TS.seq' (x := c61.s2.s2.bd.bd.bd.s1) (y := c61.s2.s2.bd.bd.bd.s2) (by kernel_rfl) ?_
  have hX := of_do hF
  clear hF
  obtain ⟨r51, h52, hF⟩ := hX
  have hX := of_do hF
  clear hF
  obtain ⟨r53, h54, hF⟩ := hX
  have hX := of_do hF
  clear hF
  obtain ⟨r55, h56, hF⟩ := hX
  have hX := of_do hF
  clear hF
  obtain ⟨r57, h58, hF⟩ := hX
  have hT : ∀ e ∈ ([⟨72, [.agg ⟨[.int .i64 z68.1, .int .i64 z68.2.1]⟩, .agg ⟨[.int .i64 z68.2.2.1, .int .i64 z68.2.2.2.1]⟩], [.cells 108 [.int .i64 0, .int .i64 0, .int .i64 0, .int .i64 0, .int .i64 0, .int .i64 0, .int .i64 0, .int .i64 0], .cells 108 [.int .i64 z68.1, .int .i64 z68.2.1, .int .i64 z68.2.2.1, .int .i64 z68.2.2.2.1, .int .i64 z68.2.2.2.2.1, .int .i64 z68.2.2.2.2.2.1, .int .i64 z68.2.2.2.2.2.2.1, .int .i64 z68.2.2.2.2.2.2.2]], .int .i64 r51, []⟩, ⟨63, [.agg ⟨[.int .i64 z68.1, .int .i64 z68.2.1]⟩], [.cells 108 [.int .i64 0, .int .i64 0, .int .i64 0, .int .i64 0, .int .i64 0, .int .i64 0, .int .i64 0, .int .i64 0], .cells 108 [.int .i64 z68.1, .int .i64 z68.2.1, .int .i64 z68.2.2.1, .int .i64 z68.2.2.2.1, .int .i64 z68.2.2.2.2.1, .int .i64 z68.2.2.2.2.2.1, .int .i64 z68.2.2.2.2.2.2.1, .int .i64 z68.2.2.2.2.2.2.2]], .int .i64 r53, []⟩, ⟨63, [.agg ⟨[.int .i64 z68.1, .int .i64 z68.2.1]⟩], [.cells 108 [.int .i64 0, .int .i64 0, .int .i64 0, .int .i64 0, .int .i64 0, .int .i64 0, .int .i64 0, .int .i64 0], .cells 108 [.int .i64 z68.1, .int .i64 z68.2.1, .int .i64 z68.2.2.1, .int .i64 z68.2.2.2.1, .int .i64 z68.2.2.2.2.1, .int .i64 z68.2.2.2.2.2.1, .int .i64 z68.2.2.2.2.2.2.1, .int .i64 z68.2.2.2.2.2.2.2]], .int .i64 r55, []⟩, ⟨69, [.int .i64 (w64 ((w64 (2 * r51)) + r53)), .int .i64 (w64 (2 * r55))], [.cells 108 [.int .i64 0, .int .i64 0, .int .i64 0, .int .i64 0, .int .i64 0, .int .i64 0, .int .i64 0, .int .i64 0], .cells 108 [.int .i64 z68.1, .int .i64 z68.2.1, .int .i64 z68.2.2.1, .int .i64 z68.2.2.2.1, .int .i64 z68.2.2.2.2.1, .int .i64 z68.2.2.2.2.2.1, .int .i64 z68.2.2.2.2.2.2.1, .int .i64 z68.2.2.2.2.2.2.2]], .int .i64 r57, []⟩] : List Entry), PureSim Try.prog e.g e.args e.h e.v e.new := by
    intro e he
    simp only [List.mem_cons, List.not_mem_nil, or_false] at he
    rcases he with rfl | rfl | rfl | rfl
    · exact (PureSim.any (C72 z68.1 z68.2.1 z68.2.2.1 z68.2.2.2.1 r51 h52) (flatL (by kernel_rfl)) (by kernel_rfl) [.cells 108 [.int .i64 0, .int .i64 0, .int .i64 0, .int .i64 0, .int .i64 0, .int .i64 0, .int .i64 0, .int .i64 0], .cells 108 [.int .i64 z68.1, .int .i64 z68.2.1, .int .i64 z68.2.2.1, .int .i64 z68.2.2.2.1, .int .i64 z68.2.2.2.2.1, .int .i64 z68.2.2.2.2.2.1, .int .i64 z68.2.2.2.2.2.2.1, .int .i64 z68.2.2.2.2.2.2.2]])
    · exact (PureSim.any (C63 z68.1 z68.2.1 r53 h54) (flatL (by kernel_rfl)) (by kernel_rfl) [.cells 108 [.int .i64 0, .int .i64 0, .int .i64 0, .int .i64 0, .int .i64 0, .int .i64 0, .int .i64 0, .int .i64 0], .cells 108 [.int .i64 z68.1, .int .i64 z68.2.1, .int .i64 z68.2.2.1, .int .i64 z68.2.2.2.1, .int .i64 z68.2.2.2.2.1, .int .i64 z68.2.2.2.2.2.1, .int .i64 z68.2.2.2.2.2.2.1, .int .i64 z68.2.2.2.2.2.2.2]])
    · exact (PureSim.any (C63 z68.1 z68.2.1 r55 h56) (flatL (by kernel_rfl)) (by kernel_rfl) [.cells 108 [.int .i64 0, .int .i64 0, .int .i64 0, .int .i64 0, .int .i64 0, .int .i64 0, .int .i64 0, .int .i64 0], .cells 108 [.int .i64 z68.1, .int .i64 z68.2.1, .int .i64 z68.2.2.1, .int .i64 z68.2.2.2.1, .int .i64 z68.2.2.2.2.1, .int .i64 z68.2.2.2.2.2.1, .int .i64 z68.2.2.2.2.2.2.1, .int .i64 z68.2.2.2.2.2.2.2]])
    · exact (PureSim.any (C69 (w64 ((w64 (2 * r51)) + r53)) (w64 (2 * r55)) r57 h58) (flatL (by kernel_rfl)) (by kernel_rfl) [.cells 108 [.int .i64 0, .int .i64 0, .int .i64 0, .int .i64 0, .int .i64 0, .int .i64 0, .int .i64 0, .int .i64 0], .cells 108 [.int .i64 z68.1, .int .i64 z68.2.1, .int .i64 z68.2.2.1, .int .i64 z68.2.2.2.1, .int .i64 z68.2.2.2.2.1, .int .i64 z68.2.2.2.2.2.1, .int .i64 z68.2.2.2.2.2.2.1, .int .i64 z68.2.2.2.2.2.2.2]])
  refine TS.draw' (id := 2) (b := true) (ops := c61.s2.s2.bd.bd.bd.s1.rops) (fin := ({ act := (st 73 [(2, .pointer (some ⟨0, 0, none⟩)), (3, .pointer (some ⟨1, 0, none⟩)), (9, .pointer (some ⟨1, 0, none⟩)), (10, .pointer (some ⟨1, 0, none⟩)), (11, .agg ⟨[.int .i64 z68.1, .int .i64 z68.2.1]⟩), (12, .pointer (some ⟨1, 0, none⟩)), (13, .pointer (some ⟨1, 2, none⟩)), (14, .agg ⟨[.int .i64 z68.2.2.1, .int .i64 z68.2.2.2.1]⟩), (15, .int .i64 r51), (16, .int .i64 (w64 (2 * r51))), (17, .pointer (some ⟨1, 0, none⟩)), (18, .pointer (some ⟨1, 0, none⟩)), (19, .agg ⟨[.int .i64 z68.1, .int .i64 z68.2.1]⟩), (20, .int .i64 r53), (21, .int .i64 (w64 ((w64 (2 * r51)) + r53))), (22, .pointer (some ⟨1, 0, none⟩)), (23, .pointer (some ⟨1, 0, none⟩)), (24, .agg ⟨[.int .i64 z68.1, .int .i64 z68.2.1]⟩), (25, .int .i64 r55), (26, .int .i64 (w64 (2 * r55)))]), heap := [.cells 108 [.int .i64 0, .int .i64 0, .int .i64 0, .int .i64 0, .int .i64 0, .int .i64 0, .int .i64 0, .int .i64 0], .cells 108 [.int .i64 z68.1, .int .i64 z68.2.1, .int .i64 z68.2.2.1, .int .i64 z68.2.2.2.1, .int .i64 z68.2.2.2.2.1, .int .i64 z68.2.2.2.2.2.1, .int .i64 z68.2.2.2.2.2.2.1, .int .i64 z68.2.2.2.2.2.2.2]], own := [], upds := [] } : QSt)) (fin2 := ({ act := (st 73 [(2, .pointer (some ⟨0, 0, none⟩)), (3, .pointer (some ⟨1, 0, none⟩)), (9, .pointer (some ⟨1, 0, none⟩)), (10, .pointer (some ⟨1, 0, none⟩)), (11, .agg ⟨[.int .i64 z68.1, .int .i64 z68.2.1]⟩), (12, .pointer (some ⟨1, 0, none⟩)), (13, .pointer (some ⟨1, 2, none⟩)), (14, .agg ⟨[.int .i64 z68.2.2.1, .int .i64 z68.2.2.2.1]⟩), (15, .int .i64 r51), (16, .int .i64 (w64 (2 * r51))), (17, .pointer (some ⟨1, 0, none⟩)), (18, .pointer (some ⟨1, 0, none⟩)), (19, .agg ⟨[.int .i64 z68.1, .int .i64 z68.2.1]⟩), (20, .int .i64 r53), (21, .int .i64 (w64 ((w64 (2 * r51)) + r53))), (22, .pointer (some ⟨1, 0, none⟩)), (23, .pointer (some ⟨1, 0, none⟩)), (24, .agg ⟨[.int .i64 z68.1, .int .i64 z68.2.1]⟩), (25, .int .i64 r55), (26, .int .i64 (w64 (2 * r55)))]), heap := [.cells 108 [.int .i64 0, .int .i64 0, .int .i64 0, .int .i64 0, .int .i64 0, .int .i64 0, .int .i64 0, .int .i64 0], .cells 108 [.int .i64 z68.1, .int .i64 z68.2.1, .int .i64 z68.2.2.1, .int .i64 z68.2.2.2.1, .int .i64 z68.2.2.2.2.1, .int .i64 z68.2.2.2.2.2.1, .int .i64 z68.2.2.2.2.2.2.1, .int .i64 z68.2.2.2.2.2.2.2]], own := [], upds := [] } : QSt)) (a1 := (st 73 [(2, .pointer (some ⟨0, 0, none⟩)), (3, .pointer (some ⟨1, 0, none⟩)), (4, .int .i64 r57), (9, .pointer (some ⟨1, 0, none⟩)), (10, .pointer (some ⟨1, 0, none⟩)), (11, .agg ⟨[.int .i64 z68.1, .int .i64 z68.2.1]⟩), (12, .pointer (some ⟨1, 0, none⟩)), (13, .pointer (some ⟨1, 2, none⟩)), (14, .agg ⟨[.int .i64 z68.2.2.1, .int .i64 z68.2.2.2.1]⟩), (15, .int .i64 r51), (16, .int .i64 (w64 (2 * r51))), (17, .pointer (some ⟨1, 0, none⟩)), (18, .pointer (some ⟨1, 0, none⟩)), (19, .agg ⟨[.int .i64 z68.1, .int .i64 z68.2.1]⟩), (20, .int .i64 r53), (21, .int .i64 (w64 ((w64 (2 * r51)) + r53))), (22, .pointer (some ⟨1, 0, none⟩)), (23, .pointer (some ⟨1, 0, none⟩)), (24, .agg ⟨[.int .i64 z68.1, .int .i64 z68.2.1]⟩), (25, .int .i64 r55), (26, .int .i64 (w64 (2 * r55))), (27, .int .i64 r57)])) (h1 := [.cells 108 [.int .i64 0, .int .i64 0, .int .i64 0, .int .i64 0, .int .i64 0, .int .i64 0, .int .i64 0, .int .i64 0], .cells 108 [.int .i64 z68.1, .int .i64 z68.2.1, .int .i64 z68.2.2.1, .int .i64 z68.2.2.2.1, .int .i64 z68.2.2.2.2.1, .int .i64 z68.2.2.2.2.2.1, .int .i64 z68.2.2.2.2.2.2.1, .int .i64 z68.2.2.2.2.2.2.2]]) (a2 := (st 73 [(2, .pointer (some ⟨0, 0, none⟩)), (3, .pointer (some ⟨1, 0, none⟩)), (4, .int .i64 r57)])) (h2 := [.cells 108 [.int .i64 0, .int .i64 0, .int .i64 0, .int .i64 0, .int .i64 0, .int .i64 0, .int .i64 0, .int .i64 0], .cells 108 [.int .i64 z68.1, .int .i64 z68.2.1, .int .i64 z68.2.2.1, .int .i64 z68.2.2.2.1, .int .i64 z68.2.2.2.2.1, .int .i64 z68.2.2.2.2.2.1, .int .i64 z68.2.2.2.2.2.2.1, .int .i64 z68.2.2.2.2.2.2.2]]) [⟨72, [.agg ⟨[.int .i64 z68.1, .int .i64 z68.2.1]⟩, .agg ⟨[.int .i64 z68.2.2.1, .int .i64 z68.2.2.2.1]⟩], [.cells 108 [.int .i64 0, .int .i64 0, .int .i64 0, .int .i64 0, .int .i64 0, .int .i64 0, .int .i64 0, .int .i64 0], .cells 108 [.int .i64 z68.1, .int .i64 z68.2.1, .int .i64 z68.2.2.1, .int .i64 z68.2.2.2.1, .int .i64 z68.2.2.2.2.1, .int .i64 z68.2.2.2.2.2.1, .int .i64 z68.2.2.2.2.2.2.1, .int .i64 z68.2.2.2.2.2.2.2]], .int .i64 r51, []⟩, ⟨63, [.agg ⟨[.int .i64 z68.1, .int .i64 z68.2.1]⟩], [.cells 108 [.int .i64 0, .int .i64 0, .int .i64 0, .int .i64 0, .int .i64 0, .int .i64 0, .int .i64 0, .int .i64 0], .cells 108 [.int .i64 z68.1, .int .i64 z68.2.1, .int .i64 z68.2.2.1, .int .i64 z68.2.2.2.1, .int .i64 z68.2.2.2.2.1, .int .i64 z68.2.2.2.2.2.1, .int .i64 z68.2.2.2.2.2.2.1, .int .i64 z68.2.2.2.2.2.2.2]], .int .i64 r53, []⟩, ⟨63, [.agg ⟨[.int .i64 z68.1, .int .i64 z68.2.1]⟩], [.cells 108 [.int .i64 0, .int .i64 0, .int .i64 0, .int .i64 0, .int .i64 0, .int .i64 0, .int .i64 0, .int .i64 0], .cells 108 [.int .i64 z68.1, .int .i64 z68.2.1, .int .i64 z68.2.2.1, .int .i64 z68.2.2.2.1, .int .i64 z68.2.2.2.2.1, .int .i64 z68.2.2.2.2.2.1, .int .i64 z68.2.2.2.2.2.2.1, .int .i64 z68.2.2.2.2.2.2.2]], .int .i64 r55, []⟩, ⟨69, [.int .i64 (w64 ((w64 (2 * r51)) + r53)), .int .i64 (w64 (2 * r55))], [.cells 108 [.int .i64 0, .int .i64 0, .int .i64 0, .int .i64 0, .int .i64 0, .int .i64 0, .int .i64 0, .int .i64 0], .cells 108 [.int .i64 z68.1, .int .i64 z68.2.1, .int .i64 z68.2.2.1, .int .i64 z68.2.2.2.1, .int .i64 z68.2.2.2.2.1, .int .i64 z68.2.2.2.2.2.1, .int .i64 z68.2.2.2.2.2.2.1, .int .i64 z68.2.2.2.2.2.2.2]], .int .i64 r57, []⟩] hT mixed (by kernel_rfl) rfl 18 (by kernel_rfl) [] ?_ rfl (.inl ⟨rfl, rfl⟩) ?_ [2, 3, 4] [0, 1] (by kernel_rfl) ?_
  · refine QI.run (s1 := ({ act := (st 73 [(2, .pointer (some ⟨0, 0, none⟩)), (3, .pointer (some ⟨1, 0, none⟩)), (9, .pointer (some ⟨1, 0, none⟩)), (10, .pointer (some ⟨1, 0, none⟩)), (11, .agg ⟨[.int .i64 z68.1, .int .i64 z68.2.1]⟩), (12, .pointer (some ⟨1, 0, none⟩)), (13, .pointer (some ⟨1, 2, none⟩)), (14, .agg ⟨[.int .i64 z68.2.2.1, .int .i64 z68.2.2.2.1]⟩)]), heap := [.cells 108 [.int .i64 0, .int .i64 0, .int .i64 0, .int .i64 0, .int .i64 0, .int .i64 0, .int .i64 0, .int .i64 0], .cells 108 [.int .i64 z68.1, .int .i64 z68.2.1, .int .i64 z68.2.2.1, .int .i64 z68.2.2.2.1, .int .i64 z68.2.2.2.2.1, .int .i64 z68.2.2.2.2.2.1, .int .i64 z68.2.2.2.2.2.2.1, .int .i64 z68.2.2.2.2.2.2.2]], own := [], upds := [] } : QSt)) 6 (by kernel_rfl) (by kernel_rfl) ?_
    refine QI.op (q := { val := .int .i64 r51, new := [] }) (s1 := ({ act := (st 73 [(2, .pointer (some ⟨0, 0, none⟩)), (3, .pointer (some ⟨1, 0, none⟩)), (9, .pointer (some ⟨1, 0, none⟩)), (10, .pointer (some ⟨1, 0, none⟩)), (11, .agg ⟨[.int .i64 z68.1, .int .i64 z68.2.1]⟩), (12, .pointer (some ⟨1, 0, none⟩)), (13, .pointer (some ⟨1, 2, none⟩)), (14, .agg ⟨[.int .i64 z68.2.2.1, .int .i64 z68.2.2.2.1]⟩), (15, .int .i64 r51)]), heap := [.cells 108 [.int .i64 0, .int .i64 0, .int .i64 0, .int .i64 0, .int .i64 0, .int .i64 0, .int .i64 0, .int .i64 0], .cells 108 [.int .i64 z68.1, .int .i64 z68.2.1, .int .i64 z68.2.2.1, .int .i64 z68.2.2.2.1, .int .i64 z68.2.2.2.2.1, .int .i64 z68.2.2.2.2.2.1, .int .i64 z68.2.2.2.2.2.2.1, .int .i64 z68.2.2.2.2.2.2.2]], own := [], upds := [] } : QSt)) (by decide) (qOf_call (g := 72) (args := [.agg ⟨[.int .i64 z68.1, .int .i64 z68.2.1]⟩, .agg ⟨[.int .i64 z68.2.2.1, .int .i64 z68.2.2.2.1]⟩]) (by kernel_rfl) lookC_hit) (by kernel_rfl) ?_
    refine QI.run (s1 := ({ act := (st 73 [(2, .pointer (some ⟨0, 0, none⟩)), (3, .pointer (some ⟨1, 0, none⟩)), (9, .pointer (some ⟨1, 0, none⟩)), (10, .pointer (some ⟨1, 0, none⟩)), (11, .agg ⟨[.int .i64 z68.1, .int .i64 z68.2.1]⟩), (12, .pointer (some ⟨1, 0, none⟩)), (13, .pointer (some ⟨1, 2, none⟩)), (14, .agg ⟨[.int .i64 z68.2.2.1, .int .i64 z68.2.2.2.1]⟩), (15, .int .i64 r51), (16, .int .i64 (w64 (2 * r51))), (17, .pointer (some ⟨1, 0, none⟩)), (18, .pointer (some ⟨1, 0, none⟩)), (19, .agg ⟨[.int .i64 z68.1, .int .i64 z68.2.1]⟩)]), heap := [.cells 108 [.int .i64 0, .int .i64 0, .int .i64 0, .int .i64 0, .int .i64 0, .int .i64 0, .int .i64 0, .int .i64 0], .cells 108 [.int .i64 z68.1, .int .i64 z68.2.1, .int .i64 z68.2.2.1, .int .i64 z68.2.2.2.1, .int .i64 z68.2.2.2.2.1, .int .i64 z68.2.2.2.2.2.1, .int .i64 z68.2.2.2.2.2.2.1, .int .i64 z68.2.2.2.2.2.2.2]], own := [], upds := [] } : QSt)) 4 (by kernel_rfl) (by kernel_rfl) ?_
    refine QI.op (q := { val := .int .i64 r53, new := [] }) (s1 := ({ act := (st 73 [(2, .pointer (some ⟨0, 0, none⟩)), (3, .pointer (some ⟨1, 0, none⟩)), (9, .pointer (some ⟨1, 0, none⟩)), (10, .pointer (some ⟨1, 0, none⟩)), (11, .agg ⟨[.int .i64 z68.1, .int .i64 z68.2.1]⟩), (12, .pointer (some ⟨1, 0, none⟩)), (13, .pointer (some ⟨1, 2, none⟩)), (14, .agg ⟨[.int .i64 z68.2.2.1, .int .i64 z68.2.2.2.1]⟩), (15, .int .i64 r51), (16, .int .i64 (w64 (2 * r51))), (17, .pointer (some ⟨1, 0, none⟩)), (18, .pointer (some ⟨1, 0, none⟩)), (19, .agg ⟨[.int .i64 z68.1, .int .i64 z68.2.1]⟩), (20, .int .i64 r53)]), heap := [.cells 108 [.int .i64 0, .int .i64 0, .int .i64 0, .int .i64 0, .int .i64 0, .int .i64 0, .int .i64 0, .int .i64 0], .cells 108 [.int .i64 z68.1, .int .i64 z68.2.1, .int .i64 z68.2.2.1, .int .i64 z68.2.2.2.1, .int .i64 z68.2.2.2.2.1, .int .i64 z68.2.2.2.2.2.1, .int .i64 z68.2.2.2.2.2.2.1, .int .i64 z68.2.2.2.2.2.2.2]], own := [], upds := [] } : QSt)) (by decide) (qOf_call (g := 63) (args := [.agg ⟨[.int .i64 z68.1, .int .i64 z68.2.1]⟩]) (by kernel_rfl) (lookC_skip (fun hg => absurd (show (72 : Nat) = 63 from hg) (by decide)) lookC_hit)) (by kernel_rfl) ?_
    refine QI.run (s1 := ({ act := (st 73 [(2, .pointer (some ⟨0, 0, none⟩)), (3, .pointer (some ⟨1, 0, none⟩)), (9, .pointer (some ⟨1, 0, none⟩)), (10, .pointer (some ⟨1, 0, none⟩)), (11, .agg ⟨[.int .i64 z68.1, .int .i64 z68.2.1]⟩), (12, .pointer (some ⟨1, 0, none⟩)), (13, .pointer (some ⟨1, 2, none⟩)), (14, .agg ⟨[.int .i64 z68.2.2.1, .int .i64 z68.2.2.2.1]⟩), (15, .int .i64 r51), (16, .int .i64 (w64 (2 * r51))), (17, .pointer (some ⟨1, 0, none⟩)), (18, .pointer (some ⟨1, 0, none⟩)), (19, .agg ⟨[.int .i64 z68.1, .int .i64 z68.2.1]⟩), (20, .int .i64 r53), (21, .int .i64 (w64 ((w64 (2 * r51)) + r53))), (22, .pointer (some ⟨1, 0, none⟩)), (23, .pointer (some ⟨1, 0, none⟩)), (24, .agg ⟨[.int .i64 z68.1, .int .i64 z68.2.1]⟩)]), heap := [.cells 108 [.int .i64 0, .int .i64 0, .int .i64 0, .int .i64 0, .int .i64 0, .int .i64 0, .int .i64 0, .int .i64 0], .cells 108 [.int .i64 z68.1, .int .i64 z68.2.1, .int .i64 z68.2.2.1, .int .i64 z68.2.2.2.1, .int .i64 z68.2.2.2.2.1, .int .i64 z68.2.2.2.2.2.1, .int .i64 z68.2.2.2.2.2.2.1, .int .i64 z68.2.2.2.2.2.2.2]], own := [], upds := [] } : QSt)) 4 (by kernel_rfl) (by kernel_rfl) ?_
    refine QI.op (q := { val := .int .i64 r55, new := [] }) (s1 := ({ act := (st 73 [(2, .pointer (some ⟨0, 0, none⟩)), (3, .pointer (some ⟨1, 0, none⟩)), (9, .pointer (some ⟨1, 0, none⟩)), (10, .pointer (some ⟨1, 0, none⟩)), (11, .agg ⟨[.int .i64 z68.1, .int .i64 z68.2.1]⟩), (12, .pointer (some ⟨1, 0, none⟩)), (13, .pointer (some ⟨1, 2, none⟩)), (14, .agg ⟨[.int .i64 z68.2.2.1, .int .i64 z68.2.2.2.1]⟩), (15, .int .i64 r51), (16, .int .i64 (w64 (2 * r51))), (17, .pointer (some ⟨1, 0, none⟩)), (18, .pointer (some ⟨1, 0, none⟩)), (19, .agg ⟨[.int .i64 z68.1, .int .i64 z68.2.1]⟩), (20, .int .i64 r53), (21, .int .i64 (w64 ((w64 (2 * r51)) + r53))), (22, .pointer (some ⟨1, 0, none⟩)), (23, .pointer (some ⟨1, 0, none⟩)), (24, .agg ⟨[.int .i64 z68.1, .int .i64 z68.2.1]⟩), (25, .int .i64 r55)]), heap := [.cells 108 [.int .i64 0, .int .i64 0, .int .i64 0, .int .i64 0, .int .i64 0, .int .i64 0, .int .i64 0, .int .i64 0], .cells 108 [.int .i64 z68.1, .int .i64 z68.2.1, .int .i64 z68.2.2.1, .int .i64 z68.2.2.2.1, .int .i64 z68.2.2.2.2.1, .int .i64 z68.2.2.2.2.2.1, .int .i64 z68.2.2.2.2.2.2.1, .int .i64 z68.2.2.2.2.2.2.2]], own := [], upds := [] } : QSt)) (by decide) (qOf_call (g := 63) (args := [.agg ⟨[.int .i64 z68.1, .int .i64 z68.2.1]⟩]) (by kernel_rfl) (lookC_skip (fun hg => absurd (show (72 : Nat) = 63 from hg) (by decide)) (lookC_skip (by intro _ ha _; have hq := h54; have hi := h56; clear hF; first | (exfalso; simp at ha; done) | ((try simp at ha); have hr := Option.some.inj (hq.symm.trans (Eq.trans (by first | rfl | (congr 1 <;> first | rfl | omega | simp_all)) hi)); subst hr; rfl)) lookC_hit))) (by kernel_rfl) ?_
    refine QI.run (s1 := ({ act := (st 73 [(2, .pointer (some ⟨0, 0, none⟩)), (3, .pointer (some ⟨1, 0, none⟩)), (9, .pointer (some ⟨1, 0, none⟩)), (10, .pointer (some ⟨1, 0, none⟩)), (11, .agg ⟨[.int .i64 z68.1, .int .i64 z68.2.1]⟩), (12, .pointer (some ⟨1, 0, none⟩)), (13, .pointer (some ⟨1, 2, none⟩)), (14, .agg ⟨[.int .i64 z68.2.2.1, .int .i64 z68.2.2.2.1]⟩), (15, .int .i64 r51), (16, .int .i64 (w64 (2 * r51))), (17, .pointer (some ⟨1, 0, none⟩)), (18, .pointer (some ⟨1, 0, none⟩)), (19, .agg ⟨[.int .i64 z68.1, .int .i64 z68.2.1]⟩), (20, .int .i64 r53), (21, .int .i64 (w64 ((w64 (2 * r51)) + r53))), (22, .pointer (some ⟨1, 0, none⟩)), (23, .pointer (some ⟨1, 0, none⟩)), (24, .agg ⟨[.int .i64 z68.1, .int .i64 z68.2.1]⟩), (25, .int .i64 r55), (26, .int .i64 (w64 (2 * r55)))]), heap := [.cells 108 [.int .i64 0, .int .i64 0, .int .i64 0, .int .i64 0, .int .i64 0, .int .i64 0, .int .i64 0, .int .i64 0], .cells 108 [.int .i64 z68.1, .int .i64 z68.2.1, .int .i64 z68.2.2.1, .int .i64 z68.2.2.2.1, .int .i64 z68.2.2.2.2.1, .int .i64 z68.2.2.2.2.2.1, .int .i64 z68.2.2.2.2.2.2.1, .int .i64 z68.2.2.2.2.2.2.2]], own := [], upds := [] } : QSt)) 1 (by kernel_rfl) (by kernel_rfl) ?_
    exact QI.done (by kernel_rfl)
  · refine SI.op (q := { val := .int .i64 r57, new := [] }) (a2 := (st 73 [(2, .pointer (some ⟨0, 0, none⟩)), (3, .pointer (some ⟨1, 0, none⟩)), (9, .pointer (some ⟨1, 0, none⟩)), (10, .pointer (some ⟨1, 0, none⟩)), (11, .agg ⟨[.int .i64 z68.1, .int .i64 z68.2.1]⟩), (12, .pointer (some ⟨1, 0, none⟩)), (13, .pointer (some ⟨1, 2, none⟩)), (14, .agg ⟨[.int .i64 z68.2.2.1, .int .i64 z68.2.2.2.1]⟩), (15, .int .i64 r51), (16, .int .i64 (w64 (2 * r51))), (17, .pointer (some ⟨1, 0, none⟩)), (18, .pointer (some ⟨1, 0, none⟩)), (19, .agg ⟨[.int .i64 z68.1, .int .i64 z68.2.1]⟩), (20, .int .i64 r53), (21, .int .i64 (w64 ((w64 (2 * r51)) + r53))), (22, .pointer (some ⟨1, 0, none⟩)), (23, .pointer (some ⟨1, 0, none⟩)), (24, .agg ⟨[.int .i64 z68.1, .int .i64 z68.2.1]⟩), (25, .int .i64 r55), (26, .int .i64 (w64 (2 * r55))), (27, .int .i64 r57)])) (h2 := [.cells 108 [.int .i64 0, .int .i64 0, .int .i64 0, .int .i64 0, .int .i64 0, .int .i64 0, .int .i64 0, .int .i64 0], .cells 108 [.int .i64 z68.1, .int .i64 z68.2.1, .int .i64 z68.2.2.1, .int .i64 z68.2.2.2.1, .int .i64 z68.2.2.2.2.1, .int .i64 z68.2.2.2.2.2.1, .int .i64 z68.2.2.2.2.2.2.1, .int .i64 z68.2.2.2.2.2.2.2]]) (by kernel_rfl) (qOf_call (g := 69) (args := [.int .i64 (w64 ((w64 (2 * r51)) + r53)), .int .i64 (w64 (2 * r55))]) (by kernel_rfl) (lookC_skip (fun hg => absurd (show (72 : Nat) = 69 from hg) (by decide)) (lookC_skip (fun hg => absurd (show (63 : Nat) = 69 from hg) (by decide)) (lookC_skip (fun hg => absurd (show (63 : Nat) = 69 from hg) (by decide)) lookC_hit)))) (by kernel_rfl) (by kernel_rfl) ?_
    refine SI.run (a2 := (st 73 [(2, .pointer (some ⟨0, 0, none⟩)), (3, .pointer (some ⟨1, 0, none⟩)), (4, .int .i64 r57), (9, .pointer (some ⟨1, 0, none⟩)), (10, .pointer (some ⟨1, 0, none⟩)), (11, .agg ⟨[.int .i64 z68.1, .int .i64 z68.2.1]⟩), (12, .pointer (some ⟨1, 0, none⟩)), (13, .pointer (some ⟨1, 2, none⟩)), (14, .agg ⟨[.int .i64 z68.2.2.1, .int .i64 z68.2.2.2.1]⟩), (15, .int .i64 r51), (16, .int .i64 (w64 (2 * r51))), (17, .pointer (some ⟨1, 0, none⟩)), (18, .pointer (some ⟨1, 0, none⟩)), (19, .agg ⟨[.int .i64 z68.1, .int .i64 z68.2.1]⟩), (20, .int .i64 r53), (21, .int .i64 (w64 ((w64 (2 * r51)) + r53))), (22, .pointer (some ⟨1, 0, none⟩)), (23, .pointer (some ⟨1, 0, none⟩)), (24, .agg ⟨[.int .i64 z68.1, .int .i64 z68.2.1]⟩), (25, .int .i64 r55), (26, .int .i64 (w64 (2 * r55))), (27, .int .i64 r57)])) (h2 := [.cells 108 [.int .i64 0, .int .i64 0, .int .i64 0, .int .i64 0, .int .i64 0, .int .i64 0, .int .i64 0, .int .i64 0], .cells 108 [.int .i64 z68.1, .int .i64 z68.2.1, .int .i64 z68.2.2.1, .int .i64 z68.2.2.2.1, .int .i64 z68.2.2.2.2.1, .int .i64 z68.2.2.2.2.2.1, .int .i64 z68.2.2.2.2.2.2.1, .int .i64 z68.2.2.2.2.2.2.2]]) 1 (by kernel_rfl) ?_
    exact SI.done (by kernel_rfl)
  refine TS.seq' (x := c61.s2.s2.bd.bd.bd.s2.s1) (y := c61.s2.s2.bd.bd.bd.s2.s2) (by kernel_rfl) ?_
  have hX := of_do hF
  clear hF
  obtain ⟨r59, h60, hF⟩ := hX
  have hX := of_do hF
  clear hF
  obtain ⟨r61, h62, hF⟩ := hX
  have hT : ∀ e ∈ ([⟨53, [.agg ⟨[.int .i64 z68.2.2.1, .int .i64 z68.2.2.2.1]⟩, .int .i64 (w64 (0 - r57)), .agg ⟨[.int .i64 z68.1, .int .i64 z68.2.1]⟩], [.cells 108 [.int .i64 0, .int .i64 0, .int .i64 0, .int .i64 0, .int .i64 0, .int .i64 0, .int .i64 0, .int .i64 0], .cells 108 [.int .i64 z68.1, .int .i64 z68.2.1, .int .i64 z68.2.2.1, .int .i64 z68.2.2.2.1, .int .i64 z68.2.2.2.2.1, .int .i64 z68.2.2.2.2.2.1, .int .i64 z68.2.2.2.2.2.2.1, .int .i64 z68.2.2.2.2.2.2.2]], .agg ⟨[.int .i64 r59.1, .int .i64 r59.2]⟩, []⟩, ⟨78, [.agg ⟨[.int .i64 z68.2.2.2.2.2.2.1, .int .i64 z68.2.2.2.2.2.2.2]⟩, .int .i64 (w64 (0 - r57)), .agg ⟨[.int .i64 z68.2.2.2.2.1, .int .i64 z68.2.2.2.2.2.1]⟩], [.cells 108 [.int .i64 0, .int .i64 0, .int .i64 0, .int .i64 0, .int .i64 0, .int .i64 0, .int .i64 0, .int .i64 0], .cells 108 [.int .i64 z68.1, .int .i64 z68.2.1, .int .i64 z68.2.2.1, .int .i64 z68.2.2.2.1, .int .i64 z68.2.2.2.2.1, .int .i64 z68.2.2.2.2.2.1, .int .i64 z68.2.2.2.2.2.2.1, .int .i64 z68.2.2.2.2.2.2.2]], .agg ⟨[.int .i64 r61.1, .int .i64 r61.2]⟩, []⟩] : List Entry), PureSim Try.prog e.g e.args e.h e.v e.new := by
    intro e he
    simp only [List.mem_cons, List.not_mem_nil, or_false] at he
    rcases he with rfl | rfl
    · exact (PureSim.any (C53 z68.2.2.1 z68.2.2.2.1 (w64 (0 - r57)) z68.1 z68.2.1 r59 h60) (flatL (by kernel_rfl)) (by kernel_rfl) [.cells 108 [.int .i64 0, .int .i64 0, .int .i64 0, .int .i64 0, .int .i64 0, .int .i64 0, .int .i64 0, .int .i64 0], .cells 108 [.int .i64 z68.1, .int .i64 z68.2.1, .int .i64 z68.2.2.1, .int .i64 z68.2.2.2.1, .int .i64 z68.2.2.2.2.1, .int .i64 z68.2.2.2.2.2.1, .int .i64 z68.2.2.2.2.2.2.1, .int .i64 z68.2.2.2.2.2.2.2]])
    · exact (PureSim.any (C78 z68.2.2.2.2.2.2.1 z68.2.2.2.2.2.2.2 (w64 (0 - r57)) z68.2.2.2.2.1 z68.2.2.2.2.2.1 r61 h62) (flatL (by kernel_rfl)) (by kernel_rfl) [.cells 108 [.int .i64 0, .int .i64 0, .int .i64 0, .int .i64 0, .int .i64 0, .int .i64 0, .int .i64 0, .int .i64 0], .cells 108 [.int .i64 z68.1, .int .i64 z68.2.1, .int .i64 z68.2.2.1, .int .i64 z68.2.2.2.1, .int .i64 z68.2.2.2.2.1, .int .i64 z68.2.2.2.2.2.1, .int .i64 z68.2.2.2.2.2.2.1, .int .i64 z68.2.2.2.2.2.2.2]])
  refine TS.draw' (id := 3) (b := true) (ops := c61.s2.s2.bd.bd.bd.s2.s1.rops) (fin := ({ act := (st 73 [(2, .pointer (some ⟨0, 0, none⟩)), (3, .pointer (some ⟨1, 0, none⟩)), (4, .int .i64 r57), (28, .pointer (some ⟨1, 0, none⟩)), (29, .pointer (some ⟨1, 2, none⟩)), (30, .agg ⟨[.int .i64 z68.2.2.1, .int .i64 z68.2.2.2.1]⟩), (31, .int .i64 r57), (32, .int .i64 (w64 (0 - r57))), (33, .pointer (some ⟨1, 0, none⟩)), (34, .pointer (some ⟨1, 0, none⟩)), (35, .agg ⟨[.int .i64 z68.1, .int .i64 z68.2.1]⟩), (36, .agg ⟨[.int .i64 r59.1, .int .i64 r59.2]⟩), (37, .pointer (some ⟨1, 6, none⟩)), (38, .agg ⟨[.int .i64 z68.2.2.2.2.2.2.1, .int .i64 z68.2.2.2.2.2.2.2]⟩), (39, .int .i64 r57), (40, .int .i64 (w64 (0 - r57))), (41, .pointer (some ⟨1, 4, none⟩)), (42, .agg ⟨[.int .i64 z68.2.2.2.2.1, .int .i64 z68.2.2.2.2.2.1]⟩), (43, .agg ⟨[.int .i64 r61.1, .int .i64 r61.2]⟩), (44, .pointer (some ⟨1, 0, none⟩)), (45, .pointer (some ⟨1, 2, none⟩))]), heap := [.cells 108 [.int .i64 0, .int .i64 0, .int .i64 0, .int .i64 0, .int .i64 0, .int .i64 0, .int .i64 0, .int .i64 0], .cells 108 [.int .i64 z68.1, .int .i64 z68.2.1, .int .i64 z68.2.2.1, .int .i64 z68.2.2.2.1, .int .i64 z68.2.2.2.2.1, .int .i64 z68.2.2.2.2.2.1, .int .i64 z68.2.2.2.2.2.2.1, .int .i64 z68.2.2.2.2.2.2.2]], own := [], upds := [] } : QSt)) (fin2 := ({ act := (st 73 [(2, .pointer (some ⟨0, 0, none⟩)), (3, .pointer (some ⟨1, 0, none⟩)), (4, .int .i64 r57), (28, .pointer (some ⟨1, 0, none⟩)), (29, .pointer (some ⟨1, 2, none⟩)), (30, .agg ⟨[.int .i64 z68.2.2.1, .int .i64 z68.2.2.2.1]⟩), (31, .int .i64 r57), (32, .int .i64 (w64 (0 - r57))), (33, .pointer (some ⟨1, 0, none⟩)), (34, .pointer (some ⟨1, 0, none⟩)), (35, .agg ⟨[.int .i64 z68.1, .int .i64 z68.2.1]⟩), (36, .agg ⟨[.int .i64 r59.1, .int .i64 r59.2]⟩), (37, .pointer (some ⟨1, 6, none⟩)), (38, .agg ⟨[.int .i64 z68.2.2.2.2.2.2.1, .int .i64 z68.2.2.2.2.2.2.2]⟩), (39, .int .i64 r57), (40, .int .i64 (w64 (0 - r57))), (41, .pointer (some ⟨1, 4, none⟩)), (42, .agg ⟨[.int .i64 z68.2.2.2.2.1, .int .i64 z68.2.2.2.2.2.1]⟩), (43, .agg ⟨[.int .i64 r61.1, .int .i64 r61.2]⟩), (44, .pointer (some ⟨1, 0, none⟩)), (45, .pointer (some ⟨1, 2, none⟩))]), heap := [.cells 108 [.int .i64 0, .int .i64 0, .int .i64 0, .int .i64 0, .int .i64 0, .int .i64 0, .int .i64 0, .int .i64 0], .cells 108 [.int .i64 z68.1, .int .i64 z68.2.1, .int .i64 z68.2.2.1, .int .i64 z68.2.2.2.1, .int .i64 z68.2.2.2.2.1, .int .i64 z68.2.2.2.2.2.1, .int .i64 z68.2.2.2.2.2.2.1, .int .i64 z68.2.2.2.2.2.2.2]], own := [], upds := [] } : QSt)) (a1 := (st 73 [(2, .pointer (some ⟨0, 0, none⟩)), (3, .pointer (some ⟨1, 0, none⟩)), (4, .int .i64 r57), (28, .pointer (some ⟨1, 0, none⟩)), (29, .pointer (some ⟨1, 2, none⟩)), (30, .agg ⟨[.int .i64 z68.2.2.1, .int .i64 z68.2.2.2.1]⟩), (31, .int .i64 r57), (32, .int .i64 (w64 (0 - r57))), (33, .pointer (some ⟨1, 0, none⟩)), (34, .pointer (some ⟨1, 0, none⟩)), (35, .agg ⟨[.int .i64 z68.1, .int .i64 z68.2.1]⟩), (36, .agg ⟨[.int .i64 r59.1, .int .i64 r59.2]⟩), (37, .pointer (some ⟨1, 6, none⟩)), (38, .agg ⟨[.int .i64 z68.2.2.2.2.2.2.1, .int .i64 z68.2.2.2.2.2.2.2]⟩), (39, .int .i64 r57), (40, .int .i64 (w64 (0 - r57))), (41, .pointer (some ⟨1, 4, none⟩)), (42, .agg ⟨[.int .i64 z68.2.2.2.2.1, .int .i64 z68.2.2.2.2.2.1]⟩), (43, .agg ⟨[.int .i64 r61.1, .int .i64 r61.2]⟩), (44, .pointer (some ⟨1, 0, none⟩)), (45, .pointer (some ⟨1, 2, none⟩)), (46, .pointer (some ⟨1, 6, none⟩))])) (h1 := [.cells 108 [.int .i64 0, .int .i64 0, .int .i64 0, .int .i64 0, .int .i64 0, .int .i64 0, .int .i64 0, .int .i64 0], .cells 108 [.int .i64 z68.1, .int .i64 z68.2.1, .int .i64 r59.1, .int .i64 r59.2, .int .i64 z68.2.2.2.2.1, .int .i64 z68.2.2.2.2.2.1, .int .i64 r61.1, .int .i64 r61.2]]) (a2 := (st 73 [(2, .pointer (some ⟨0, 0, none⟩)), (3, .pointer (some ⟨1, 0, none⟩))])) (h2 := [.cells 108 [.int .i64 0, .int .i64 0, .int .i64 0, .int .i64 0, .int .i64 0, .int .i64 0, .int .i64 0, .int .i64 0], .cells 108 [.int .i64 z68.1, .int .i64 z68.2.1, .int .i64 r59.1, .int .i64 r59.2, .int .i64 z68.2.2.2.2.1, .int .i64 z68.2.2.2.2.2.1, .int .i64 r61.1, .int .i64 r61.2]]) [⟨53, [.agg ⟨[.int .i64 z68.2.2.1, .int .i64 z68.2.2.2.1]⟩, .int .i64 (w64 (0 - r57)), .agg ⟨[.int .i64 z68.1, .int .i64 z68.2.1]⟩], [.cells 108 [.int .i64 0, .int .i64 0, .int .i64 0, .int .i64 0, .int .i64 0, .int .i64 0, .int .i64 0, .int .i64 0], .cells 108 [.int .i64 z68.1, .int .i64 z68.2.1, .int .i64 z68.2.2.1, .int .i64 z68.2.2.2.1, .int .i64 z68.2.2.2.2.1, .int .i64 z68.2.2.2.2.2.1, .int .i64 z68.2.2.2.2.2.2.1, .int .i64 z68.2.2.2.2.2.2.2]], .agg ⟨[.int .i64 r59.1, .int .i64 r59.2]⟩, []⟩, ⟨78, [.agg ⟨[.int .i64 z68.2.2.2.2.2.2.1, .int .i64 z68.2.2.2.2.2.2.2]⟩, .int .i64 (w64 (0 - r57)), .agg ⟨[.int .i64 z68.2.2.2.2.1, .int .i64 z68.2.2.2.2.2.1]⟩], [.cells 108 [.int .i64 0, .int .i64 0, .int .i64 0, .int .i64 0, .int .i64 0, .int .i64 0, .int .i64 0, .int .i64 0], .cells 108 [.int .i64 z68.1, .int .i64 z68.2.1, .int .i64 z68.2.2.1, .int .i64 z68.2.2.2.1, .int .i64 z68.2.2.2.2.1, .int .i64 z68.2.2.2.2.2.1, .int .i64 z68.2.2.2.2.2.2.1, .int .i64 z68.2.2.2.2.2.2.2]], .agg ⟨[.int .i64 r61.1, .int .i64 r61.2]⟩, []⟩] hT mixed (by kernel_rfl) rfl 18 (by kernel_rfl) [] ?_ rfl (.inl ⟨rfl, rfl⟩) ?_ [2, 3] [0, 1] (by kernel_rfl) ?_
  · refine QI.run (s1 := ({ act := (st 73 [(2, .pointer (some ⟨0, 0, none⟩)), (3, .pointer (some ⟨1, 0, none⟩)), (4, .int .i64 r57), (28, .pointer (some ⟨1, 0, none⟩)), (29, .pointer (some ⟨1, 2, none⟩)), (30, .agg ⟨[.int .i64 z68.2.2.1, .int .i64 z68.2.2.2.1]⟩), (31, .int .i64 r57), (32, .int .i64 (w64 (0 - r57))), (33, .pointer (some ⟨1, 0, none⟩)), (34, .pointer (some ⟨1, 0, none⟩)), (35, .agg ⟨[.int .i64 z68.1, .int .i64 z68.2.1]⟩)]), heap := [.cells 108 [.int .i64 0, .int .i64 0, .int .i64 0, .int .i64 0, .int .i64 0, .int .i64 0, .int .i64 0, .int .i64 0], .cells 108 [.int .i64 z68.1, .int .i64 z68.2.1, .int .i64 z68.2.2.1, .int .i64 z68.2.2.2.1, .int .i64 z68.2.2.2.2.1, .int .i64 z68.2.2.2.2.2.1, .int .i64 z68.2.2.2.2.2.2.1, .int .i64 z68.2.2.2.2.2.2.2]], own := [], upds := [] } : QSt)) 8 (by kernel_rfl) (by kernel_rfl) ?_
    refine QI.op (q := { val := .agg ⟨[.int .i64 r59.1, .int .i64 r59.2]⟩, new := [] }) (s1 := ({ act := (st 73 [(2, .pointer (some ⟨0, 0, none⟩)), (3, .pointer (some ⟨1, 0, none⟩)), (4, .int .i64 r57), (28, .pointer (some ⟨1, 0, none⟩)), (29, .pointer (some ⟨1, 2, none⟩)), (30, .agg ⟨[.int .i64 z68.2.2.1, .int .i64 z68.2.2.2.1]⟩), (31, .int .i64 r57), (32, .int .i64 (w64 (0 - r57))), (33, .pointer (some ⟨1, 0, none⟩)), (34, .pointer (some ⟨1, 0, none⟩)), (35, .agg ⟨[.int .i64 z68.1, .int .i64 z68.2.1]⟩), (36, .agg ⟨[.int .i64 r59.1, .int .i64 r59.2]⟩)]), heap := [.cells 108 [.int .i64 0, .int .i64 0, .int .i64 0, .int .i64 0, .int .i64 0, .int .i64 0, .int .i64 0, .int .i64 0], .cells 108 [.int .i64 z68.1, .int .i64 z68.2.1, .int .i64 z68.2.2.1, .int .i64 z68.2.2.2.1, .int .i64 z68.2.2.2.2.1, .int .i64 z68.2.2.2.2.2.1, .int .i64 z68.2.2.2.2.2.2.1, .int .i64 z68.2.2.2.2.2.2.2]], own := [], upds := [] } : QSt)) (by decide) (qOf_call (g := 53) (args := [.agg ⟨[.int .i64 z68.2.2.1, .int .i64 z68.2.2.2.1]⟩, .int .i64 (w64 (0 - r57)), .agg ⟨[.int .i64 z68.1, .int .i64 z68.2.1]⟩]) (by kernel_rfl) lookC_hit) (by kernel_rfl) ?_
    refine QI.run (s1 := ({ act := (st 73 [(2, .pointer (some ⟨0, 0, none⟩)), (3, .pointer (some ⟨1, 0, none⟩)), (4, .int .i64 r57), (28, .pointer (some ⟨1, 0, none⟩)), (29, .pointer (some ⟨1, 2, none⟩)), (30, .agg ⟨[.int .i64 z68.2.2.1, .int .i64 z68.2.2.2.1]⟩), (31, .int .i64 r57), (32, .int .i64 (w64 (0 - r57))), (33, .pointer (some ⟨1, 0, none⟩)), (34, .pointer (some ⟨1, 0, none⟩)), (35, .agg ⟨[.int .i64 z68.1, .int .i64 z68.2.1]⟩), (36, .agg ⟨[.int .i64 r59.1, .int .i64 r59.2]⟩), (37, .pointer (some ⟨1, 6, none⟩)), (38, .agg ⟨[.int .i64 z68.2.2.2.2.2.2.1, .int .i64 z68.2.2.2.2.2.2.2]⟩), (39, .int .i64 r57), (40, .int .i64 (w64 (0 - r57))), (41, .pointer (some ⟨1, 4, none⟩)), (42, .agg ⟨[.int .i64 z68.2.2.2.2.1, .int .i64 z68.2.2.2.2.2.1]⟩)]), heap := [.cells 108 [.int .i64 0, .int .i64 0, .int .i64 0, .int .i64 0, .int .i64 0, .int .i64 0, .int .i64 0, .int .i64 0], .cells 108 [.int .i64 z68.1, .int .i64 z68.2.1, .int .i64 z68.2.2.1, .int .i64 z68.2.2.2.1, .int .i64 z68.2.2.2.2.1, .int .i64 z68.2.2.2.2.2.1, .int .i64 z68.2.2.2.2.2.2.1, .int .i64 z68.2.2.2.2.2.2.2]], own := [], upds := [] } : QSt)) 6 (by kernel_rfl) (by kernel_rfl) ?_
    refine QI.op (q := { val := .agg ⟨[.int .i64 r61.1, .int .i64 r61.2]⟩, new := [] }) (s1 := ({ act := (st 73 [(2, .pointer (some ⟨0, 0, none⟩)), (3, .pointer (some ⟨1, 0, none⟩)), (4, .int .i64 r57), (28, .pointer (some ⟨1, 0, none⟩)), (29, .pointer (some ⟨1, 2, none⟩)), (30, .agg ⟨[.int .i64 z68.2.2.1, .int .i64 z68.2.2.2.1]⟩), (31, .int .i64 r57), (32, .int .i64 (w64 (0 - r57))), (33, .pointer (some ⟨1, 0, none⟩)), (34, .pointer (some ⟨1, 0, none⟩)), (35, .agg ⟨[.int .i64 z68.1, .int .i64 z68.2.1]⟩), (36, .agg ⟨[.int .i64 r59.1, .int .i64 r59.2]⟩), (37, .pointer (some ⟨1, 6, none⟩)), (38, .agg ⟨[.int .i64 z68.2.2.2.2.2.2.1, .int .i64 z68.2.2.2.2.2.2.2]⟩), (39, .int .i64 r57), (40, .int .i64 (w64 (0 - r57))), (41, .pointer (some ⟨1, 4, none⟩)), (42, .agg ⟨[.int .i64 z68.2.2.2.2.1, .int .i64 z68.2.2.2.2.2.1]⟩), (43, .agg ⟨[.int .i64 r61.1, .int .i64 r61.2]⟩)]), heap := [.cells 108 [.int .i64 0, .int .i64 0, .int .i64 0, .int .i64 0, .int .i64 0, .int .i64 0, .int .i64 0, .int .i64 0], .cells 108 [.int .i64 z68.1, .int .i64 z68.2.1, .int .i64 z68.2.2.1, .int .i64 z68.2.2.2.1, .int .i64 z68.2.2.2.2.1, .int .i64 z68.2.2.2.2.2.1, .int .i64 z68.2.2.2.2.2.2.1, .int .i64 z68.2.2.2.2.2.2.2]], own := [], upds := [] } : QSt)) (by decide) (qOf_call (g := 78) (args := [.agg ⟨[.int .i64 z68.2.2.2.2.2.2.1, .int .i64 z68.2.2.2.2.2.2.2]⟩, .int .i64 (w64 (0 - r57)), .agg ⟨[.int .i64 z68.2.2.2.2.1, .int .i64 z68.2.2.2.2.2.1]⟩]) (by kernel_rfl) (lookC_skip (fun hg => absurd (show (53 : Nat) = 78 from hg) (by decide)) lookC_hit)) (by kernel_rfl) ?_
    refine QI.run (s1 := ({ act := (st 73 [(2, .pointer (some ⟨0, 0, none⟩)), (3, .pointer (some ⟨1, 0, none⟩)), (4, .int .i64 r57), (28, .pointer (some ⟨1, 0, none⟩)), (29, .pointer (some ⟨1, 2, none⟩)), (30, .agg ⟨[.int .i64 z68.2.2.1, .int .i64 z68.2.2.2.1]⟩), (31, .int .i64 r57), (32, .int .i64 (w64 (0 - r57))), (33, .pointer (some ⟨1, 0, none⟩)), (34, .pointer (some ⟨1, 0, none⟩)), (35, .agg ⟨[.int .i64 z68.1, .int .i64 z68.2.1]⟩), (36, .agg ⟨[.int .i64 r59.1, .int .i64 r59.2]⟩), (37, .pointer (some ⟨1, 6, none⟩)), (38, .agg ⟨[.int .i64 z68.2.2.2.2.2.2.1, .int .i64 z68.2.2.2.2.2.2.2]⟩), (39, .int .i64 r57), (40, .int .i64 (w64 (0 - r57))), (41, .pointer (some ⟨1, 4, none⟩)), (42, .agg ⟨[.int .i64 z68.2.2.2.2.1, .int .i64 z68.2.2.2.2.2.1]⟩), (43, .agg ⟨[.int .i64 r61.1, .int .i64 r61.2]⟩), (44, .pointer (some ⟨1, 0, none⟩)), (45, .pointer (some ⟨1, 2, none⟩))]), heap := [.cells 108 [.int .i64 0, .int .i64 0, .int .i64 0, .int .i64 0, .int .i64 0, .int .i64 0, .int .i64 0, .int .i64 0], .cells 108 [.int .i64 z68.1, .int .i64 z68.2.1, .int .i64 z68.2.2.1, .int .i64 z68.2.2.2.1, .int .i64 z68.2.2.2.2.1, .int .i64 z68.2.2.2.2.2.1, .int .i64 z68.2.2.2.2.2.2.1, .int .i64 z68.2.2.2.2.2.2.2]], own := [], upds := [] } : QSt)) 2 (by kernel_rfl) (by kernel_rfl) ?_
    exact QI.done (by kernel_rfl)
  · refine SI.run (a2 := (st 73 [(2, .pointer (some ⟨0, 0, none⟩)), (3, .pointer (some ⟨1, 0, none⟩)), (4, .int .i64 r57), (28, .pointer (some ⟨1, 0, none⟩)), (29, .pointer (some ⟨1, 2, none⟩)), (30, .agg ⟨[.int .i64 z68.2.2.1, .int .i64 z68.2.2.2.1]⟩), (31, .int .i64 r57), (32, .int .i64 (w64 (0 - r57))), (33, .pointer (some ⟨1, 0, none⟩)), (34, .pointer (some ⟨1, 0, none⟩)), (35, .agg ⟨[.int .i64 z68.1, .int .i64 z68.2.1]⟩), (36, .agg ⟨[.int .i64 r59.1, .int .i64 r59.2]⟩), (37, .pointer (some ⟨1, 6, none⟩)), (38, .agg ⟨[.int .i64 z68.2.2.2.2.2.2.1, .int .i64 z68.2.2.2.2.2.2.2]⟩), (39, .int .i64 r57), (40, .int .i64 (w64 (0 - r57))), (41, .pointer (some ⟨1, 4, none⟩)), (42, .agg ⟨[.int .i64 z68.2.2.2.2.1, .int .i64 z68.2.2.2.2.2.1]⟩), (43, .agg ⟨[.int .i64 r61.1, .int .i64 r61.2]⟩), (44, .pointer (some ⟨1, 0, none⟩)), (45, .pointer (some ⟨1, 2, none⟩)), (46, .pointer (some ⟨1, 6, none⟩))])) (h2 := [.cells 108 [.int .i64 0, .int .i64 0, .int .i64 0, .int .i64 0, .int .i64 0, .int .i64 0, .int .i64 0, .int .i64 0], .cells 108 [.int .i64 z68.1, .int .i64 z68.2.1, .int .i64 r59.1, .int .i64 r59.2, .int .i64 z68.2.2.2.2.1, .int .i64 z68.2.2.2.2.2.1, .int .i64 r61.1, .int .i64 r61.2]]) 3 (by kernel_rfl) ?_
    exact SI.done (by kernel_rfl)
  refine TS.seq' (x := c61.s2.s2.bd.bd.bd.s2.s2.s1) (y := c61.s2.s2.bd.bd.bd.s2.s2.s2) (by kernel_rfl) ?_
  refine TS.seq' (x := c61.s2.s2.bd.bd.bd.s2.s2.s1.s1) (y := c61.s2.s2.bd.bd.bd.s2.s2.s1.s2) (by kernel_rfl) ?_
  have hX := of_do hF
  clear hF
  obtain ⟨r63, h64, hF⟩ := hX
  have hX := of_do hF
  clear hF
  obtain ⟨r65, h66, hF⟩ := hX
  have hT : ∀ e ∈ ([⟨63, [.agg ⟨[.int .i64 z68.1, .int .i64 z68.2.1]⟩], [.cells 108 [.int .i64 0, .int .i64 0, .int .i64 0, .int .i64 0, .int .i64 0, .int .i64 0, .int .i64 0, .int .i64 0], .cells 108 [.int .i64 z68.1, .int .i64 z68.2.1, .int .i64 r59.1, .int .i64 r59.2, .int .i64 z68.2.2.2.2.1, .int .i64 z68.2.2.2.2.2.1, .int .i64 r61.1, .int .i64 r61.2]], .int .i64 r63, []⟩, ⟨63, [.agg ⟨[.int .i64 r59.1, .int .i64 r59.2]⟩], [.cells 108 [.int .i64 0, .int .i64 0, .int .i64 0, .int .i64 0, .int .i64 0, .int .i64 0, .int .i64 0, .int .i64 0], .cells 108 [.int .i64 z68.1, .int .i64 z68.2.1, .int .i64 r59.1, .int .i64 r59.2, .int .i64 z68.2.2.2.2.1, .int .i64 z68.2.2.2.2.2.1, .int .i64 r61.1, .int .i64 r61.2]], .int .i64 r65, []⟩] : List Entry), PureSim Try.prog e.g e.args e.h e.v e.new := by
    intro e he
    simp only [List.mem_cons, List.not_mem_nil, or_false] at he
    rcases he with rfl | rfl
    · exact (PureSim.any (C63 z68.1 z68.2.1 r63 h64) (flatL (by kernel_rfl)) (by kernel_rfl) [.cells 108 [.int .i64 0, .int .i64 0, .int .i64 0, .int .i64 0, .int .i64 0, .int .i64 0, .int .i64 0, .int .i64 0], .cells 108 [.int .i64 z68.1, .int .i64 z68.2.1, .int .i64 r59.1, .int .i64 r59.2, .int .i64 z68.2.2.2.2.1, .int .i64 z68.2.2.2.2.2.1, .int .i64 r61.1, .int .i64 r61.2]])
    · exact (PureSim.any (C63 r59.1 r59.2 r65 h66) (flatL (by kernel_rfl)) (by kernel_rfl) [.cells 108 [.int .i64 0, .int .i64 0, .int .i64 0, .int .i64 0, .int .i64 0, .int .i64 0, .int .i64 0, .int .i64 0], .cells 108 [.int .i64 z68.1, .int .i64 z68.2.1, .int .i64 r59.1, .int .i64 r59.2, .int .i64 z68.2.2.2.2.1, .int .i64 z68.2.2.2.2.2.1, .int .i64 r61.1, .int .i64 r61.2]])
  refine TS.draw' (id := 4) (b := true) (ops := c61.s2.s2.bd.bd.bd.s2.s2.s1.s1.rops) (fin := ({ act := (st 73 [(2, .pointer (some ⟨0, 0, none⟩)), (3, .pointer (some ⟨1, 0, none⟩)), (47, .pointer (some ⟨1, 0, none⟩)), (48, .pointer (some ⟨1, 0, none⟩)), (49, .agg ⟨[.int .i64 z68.1, .int .i64 z68.2.1]⟩), (50, .int .i64 r63), (51, .pointer (some ⟨1, 0, none⟩)), (52, .pointer (some ⟨1, 2, none⟩)), (53, .agg ⟨[.int .i64 r59.1, .int .i64 r59.2]⟩)]), heap := [.cells 108 [.int .i64 0, .int .i64 0, .int .i64 0, .int .i64 0, .int .i64 0, .int .i64 0, .int .i64 0, .int .i64 0], .cells 108 [.int .i64 z68.1, .int .i64 z68.2.1, .int .i64 r59.1, .int .i64 r59.2, .int .i64 z68.2.2.2.2.1, .int .i64 z68.2.2.2.2.2.1, .int .i64 r61.1, .int .i64 r61.2]], own := [], upds := [] } : QSt)) (fin2 := ({ act := (st 73 [(2, .pointer (some ⟨0, 0, none⟩)), (3, .pointer (some ⟨1, 0, none⟩)), (47, .pointer (some ⟨1, 0, none⟩)), (48, .pointer (some ⟨1, 0, none⟩)), (49, .agg ⟨[.int .i64 z68.1, .int .i64 z68.2.1]⟩), (50, .int .i64 r63), (51, .pointer (some ⟨1, 0, none⟩)), (52, .pointer (some ⟨1, 2, none⟩)), (53, .agg ⟨[.int .i64 r59.1, .int .i64 r59.2]⟩)]), heap := [.cells 108 [.int .i64 0, .int .i64 0, .int .i64 0, .int .i64 0, .int .i64 0, .int .i64 0, .int .i64 0, .int .i64 0], .cells 108 [.int .i64 z68.1, .int .i64 z68.2.1, .int .i64 r59.1, .int .i64 r59.2, .int .i64 z68.2.2.2.2.1, .int .i64 z68.2.2.2.2.2.1, .int .i64 r61.1, .int .i64 r61.2]], own := [], upds := [] } : QSt)) (a1 := (st 73 [(2, .pointer (some ⟨0, 0, none⟩)), (3, .pointer (some ⟨1, 0, none⟩)), (47, .pointer (some ⟨1, 0, none⟩)), (48, .pointer (some ⟨1, 0, none⟩)), (49, .agg ⟨[.int .i64 z68.1, .int .i64 z68.2.1]⟩), (50, .int .i64 r63), (51, .pointer (some ⟨1, 0, none⟩)), (52, .pointer (some ⟨1, 2, none⟩)), (53, .agg ⟨[.int .i64 r59.1, .int .i64 r59.2]⟩), (54, .int .i64 r65), (55, .bool (decide (r63 ≤ r65)))])) (h1 := [.cells 108 [.int .i64 0, .int .i64 0, .int .i64 0, .int .i64 0, .int .i64 0, .int .i64 0, .int .i64 0, .int .i64 0], .cells 108 [.int .i64 z68.1, .int .i64 z68.2.1, .int .i64 r59.1, .int .i64 r59.2, .int .i64 z68.2.2.2.2.1, .int .i64 z68.2.2.2.2.2.1, .int .i64 r61.1, .int .i64 r61.2]]) (a2 := (st 73 [(2, .pointer (some ⟨0, 0, none⟩)), (3, .pointer (some ⟨1, 0, none⟩)), (55, .bool (decide (r63 ≤ r65)))])) (h2 := [.cells 108 [.int .i64 0, .int .i64 0, .int .i64 0, .int .i64 0, .int .i64 0, .int .i64 0, .int .i64 0, .int .i64 0], .cells 108 [.int .i64 z68.1, .int .i64 z68.2.1, .int .i64 r59.1, .int .i64 r59.2, .int .i64 z68.2.2.2.2.1, .int .i64 z68.2.2.2.2.2.1, .int .i64 r61.1, .int .i64 r61.2]]) [⟨63, [.agg ⟨[.int .i64 z68.1, .int .i64 z68.2.1]⟩], [.cells 108 [.int .i64 0, .int .i64 0, .int .i64 0, .int .i64 0, .int .i64 0, .int .i64 0, .int .i64 0, .int .i64 0], .cells 108 [.int .i64 z68.1, .int .i64 z68.2.1, .int .i64 r59.1, .int .i64 r59.2, .int .i64 z68.2.2.2.2.1, .int .i64 z68.2.2.2.2.2.1, .int .i64 r61.1, .int .i64 r61.2]], .int .i64 r63, []⟩, ⟨63, [.agg ⟨[.int .i64 r59.1, .int .i64 r59.2]⟩], [.cells 108 [.int .i64 0, .int .i64 0, .int .i64 0, .int .i64 0, .int .i64 0, .int .i64 0, .int .i64 0, .int .i64 0], .cells 108 [.int .i64 z68.1, .int .i64 z68.2.1, .int .i64 r59.1, .int .i64 r59.2, .int .i64 z68.2.2.2.2.1, .int .i64 z68.2.2.2.2.2.1, .int .i64 r61.1, .int .i64 r61.2]], .int .i64 r65, []⟩] hT mixed (by kernel_rfl) rfl 7 (by kernel_rfl) [] ?_ rfl (.inl ⟨rfl, rfl⟩) ?_ [2, 3, 55] [0, 1] (by kernel_rfl) ?_
  · refine QI.run (s1 := ({ act := (st 73 [(2, .pointer (some ⟨0, 0, none⟩)), (3, .pointer (some ⟨1, 0, none⟩)), (47, .pointer (some ⟨1, 0, none⟩)), (48, .pointer (some ⟨1, 0, none⟩)), (49, .agg ⟨[.int .i64 z68.1, .int .i64 z68.2.1]⟩)]), heap := [.cells 108 [.int .i64 0, .int .i64 0, .int .i64 0, .int .i64 0, .int .i64 0, .int .i64 0, .int .i64 0, .int .i64 0], .cells 108 [.int .i64 z68.1, .int .i64 z68.2.1, .int .i64 r59.1, .int .i64 r59.2, .int .i64 z68.2.2.2.2.1, .int .i64 z68.2.2.2.2.2.1, .int .i64 r61.1, .int .i64 r61.2]], own := [], upds := [] } : QSt)) 3 (by kernel_rfl) (by kernel_rfl) ?_
    refine QI.op (q := { val := .int .i64 r63, new := [] }) (s1 := ({ act := (st 73 [(2, .pointer (some ⟨0, 0, none⟩)), (3, .pointer (some ⟨1, 0, none⟩)), (47, .pointer (some ⟨1, 0, none⟩)), (48, .pointer (some ⟨1, 0, none⟩)), (49, .agg ⟨[.int .i64 z68.1, .int .i64 z68.2.1]⟩), (50, .int .i64 r63)]), heap := [.cells 108 [.int .i64 0, .int .i64 0, .int .i64 0, .int .i64 0, .int .i64 0, .int .i64 0, .int .i64 0, .int .i64 0], .cells 108 [.int .i64 z68.1, .int .i64 z68.2.1, .int .i64 r59.1, .int .i64 r59.2, .int .i64 z68.2.2.2.2.1, .int .i64 z68.2.2.2.2.2.1, .int .i64 r61.1, .int .i64 r61.2]], own := [], upds := [] } : QSt)) (by decide) (qOf_call (g := 63) (args := [.agg ⟨[.int .i64 z68.1, .int .i64 z68.2.1]⟩]) (by kernel_rfl) lookC_hit) (by kernel_rfl) ?_
    refine QI.run (s1 := ({ act := (st 73 [(2, .pointer (some ⟨0, 0, none⟩)), (3, .pointer (some ⟨1, 0, none⟩)), (47, .pointer (some ⟨1, 0, none⟩)), (48, .pointer (some ⟨1, 0, none⟩)), (49, .agg ⟨[.int .i64 z68.1, .int .i64 z68.2.1]⟩), (50, .int .i64 r63), (51, .pointer (some ⟨1, 0, none⟩)), (52, .pointer (some ⟨1, 2, none⟩)), (53, .agg ⟨[.int .i64 r59.1, .int .i64 r59.2]⟩)]), heap := [.cells 108 [.int .i64 0, .int .i64 0, .int .i64 0, .int .i64 0, .int .i64 0, .int .i64 0, .int .i64 0, .int .i64 0], .cells 108 [.int .i64 z68.1, .int .i64 z68.2.1, .int .i64 r59.1, .int .i64 r59.2, .int .i64 z68.2.2.2.2.1, .int .i64 z68.2.2.2.2.2.1, .int .i64 r61.1, .int .i64 r61.2]], own := [], upds := [] } : QSt)) 3 (by kernel_rfl) (by kernel_rfl) ?_
    exact QI.done (by kernel_rfl)
  · refine SI.op (q := { val := .int .i64 r65, new := [] }) (a2 := (st 73 [(2, .pointer (some ⟨0, 0, none⟩)), (3, .pointer (some ⟨1, 0, none⟩)), (47, .pointer (some ⟨1, 0, none⟩)), (48, .pointer (some ⟨1, 0, none⟩)), (49, .agg ⟨[.int .i64 z68.1, .int .i64 z68.2.1]⟩), (50, .int .i64 r63), (51, .pointer (some ⟨1, 0, none⟩)), (52, .pointer (some ⟨1, 2, none⟩)), (53, .agg ⟨[.int .i64 r59.1, .int .i64 r59.2]⟩), (54, .int .i64 r65)])) (h2 := [.cells 108 [.int .i64 0, .int .i64 0, .int .i64 0, .int .i64 0, .int .i64 0, .int .i64 0, .int .i64 0, .int .i64 0], .cells 108 [.int .i64 z68.1, .int .i64 z68.2.1, .int .i64 r59.1, .int .i64 r59.2, .int .i64 z68.2.2.2.2.1, .int .i64 z68.2.2.2.2.2.1, .int .i64 r61.1, .int .i64 r61.2]]) (by kernel_rfl) (qOf_call (g := 63) (args := [.agg ⟨[.int .i64 r59.1, .int .i64 r59.2]⟩]) (by kernel_rfl) (lookC_skip (by intro _ ha _; have hq := h64; have hi := h66; clear hF; first | (exfalso; simp at ha; done) | ((try simp at ha); have hr := Option.some.inj (hq.symm.trans (Eq.trans (by first | rfl | (congr 1 <;> first | rfl | omega | simp_all)) hi)); subst hr; rfl)) lookC_hit)) (by kernel_rfl) (by kernel_rfl) ?_
    refine SI.run (a2 := (st 73 [(2, .pointer (some ⟨0, 0, none⟩)), (3, .pointer (some ⟨1, 0, none⟩)), (47, .pointer (some ⟨1, 0, none⟩)), (48, .pointer (some ⟨1, 0, none⟩)), (49, .agg ⟨[.int .i64 z68.1, .int .i64 z68.2.1]⟩), (50, .int .i64 r63), (51, .pointer (some ⟨1, 0, none⟩)), (52, .pointer (some ⟨1, 2, none⟩)), (53, .agg ⟨[.int .i64 r59.1, .int .i64 r59.2]⟩), (54, .int .i64 r65), (55, .bool (decide (r63 ≤ r65)))])) (h2 := [.cells 108 [.int .i64 0, .int .i64 0, .int .i64 0, .int .i64 0, .int .i64 0, .int .i64 0, .int .i64 0, .int .i64 0], .cells 108 [.int .i64 z68.1, .int .i64 z68.2.1, .int .i64 r59.1, .int .i64 r59.2, .int .i64 z68.2.2.2.2.1, .int .i64 z68.2.2.2.2.2.1, .int .i64 r61.1, .int .i64 r61.2]]) 1 (by kernel_rfl) ?_
    exact SI.done (by kernel_rfl)
  refine TS.cond' (o := (.tmp 55)) (x := c61.s2.s2.bd.bd.bd.s2.s2.s1.s2.th) (y := c61.s2.s2.bd.bd.bd.s2.s2.s1.s2.el) (b := decide (r63 ≤ r65)) (by kernel_rfl) (by kernel_rfl) (fun hc67 => ?_) (fun hc67 => ?_)
  · replace hF := of_pos hF hc67
    refine TS.seq' (x := c61.s2.s2.bd.bd.bd.s2.s2.s1.s2.th.s1) (y := c61.s2.s2.bd.bd.bd.s2.s2.s1.s2.th.s2) (by kernel_rfl) ?_
    refine TS.region' (id := 5) (b := false) (ops := c61.s2.s2.bd.bd.bd.s2.s2.s1.s2.th.s1.rops) (by kernel_rfl) rfl ?_
    refine TI.run 2 [2] [0] (a2 := (st 73 [(2, .pointer (some ⟨0, 0, none⟩))])) (h2 := [.cells 108 [.int .i64 z68.1, .int .i64 z68.2.1, .int .i64 r59.1, .int .i64 r59.2, .int .i64 z68.2.2.2.2.1, .int .i64 z68.2.2.2.2.2.1, .int .i64 r61.1, .int .i64 r61.2], .dead]) (by kernel_rfl) ?_
    refine TI.done (by kernel_rfl) ?_
    refine NX.sq ?_
    refine TS.ret' (by kernel_rfl) ?_
    refine NX.sqR ?_
    refine NX.bkR ?_
    have hF := Option.some.inj hF
    subst hF
    exact Rd.out (e := .ret) (by intro h; cases h) (And.intro rfl (Wk.anew (base := 0) (L := 0) (f := [0]) (by decide) (by decide) (Nat.le_of_ble_eq_true rfl) rfl (.cons (At.blk (by kernel_rfl) (RnB.lit (.cons (.flat (by kernel_rfl)) (.cons (.flat (by kernel_rfl)) (.cons (.flat (by kernel_rfl)) (.cons (.flat (by kernel_rfl)) (.cons (.flat (by kernel_rfl)) (.cons (.flat (by kernel_rfl)) (.cons (.flat (by kernel_rfl)) (.cons (.flat (by kernel_rfl)) .nil)))))))))) (.nil _)) (LRn.stx [2] [.pointer (some ⟨0, 0, none⟩)] [.pointer (some ⟨0, 0, none⟩)] (.cons (Rn.ptr _ _ _ (Nat.le_of_ble_eq_true rfl) rfl) .nil) (by kernel_rfl) (by kernel_rfl) rfl) rfl rfl))
  · replace hF := of_neg hF hc67
    refine TS.skip' (by kernel_rfl) ?_
    refine NX.sq ?_
    refine TS.region' (id := 6) (b := false) (ops := c61.s2.s2.bd.bd.bd.s2.s2.s2.rops) (by kernel_rfl) rfl ?_
    refine TI.run 20 [2, 3] [0, 1] (a2 := (st 73 [(2, .pointer (some ⟨0, 0, none⟩)), (3, .pointer (some ⟨1, 0, none⟩))])) (h2 := [.cells 108 [.int .i64 0, .int .i64 0, .int .i64 0, .int .i64 0, .int .i64 0, .int .i64 0, .int .i64 0, .int .i64 0], .cells 108 [.int .i64 r59.1, .int .i64 r59.2, .int .i64 z68.1, .int .i64 z68.2.1, .int .i64 r61.1, .int .i64 r61.2, .int .i64 z68.2.2.2.2.1, .int .i64 z68.2.2.2.2.2.1]]) (by kernel_rfl) ?_
    refine TI.done (by kernel_rfl) ?_
    refine NX.bk ?_
    exact Rd.again (a2 := (st 73 [(2, .pointer (some ⟨0, 0, none⟩)), (3, .pointer (some ⟨1, 0, none⟩))])) (h2 := [.cells 108 [.int .i64 0, .int .i64 0, .int .i64 0, .int .i64 0, .int .i64 0, .int .i64 0, .int .i64 0, .int .i64 0], .cells 108 [.int .i64 r59.1, .int .i64 r59.2, .int .i64 z68.1, .int .i64 z68.2.1, .int .i64 r61.1, .int .i64 r61.2, .int .i64 z68.2.2.2.2.1, .int .i64 z68.2.2.2.2.2.1]]) (Wk.anew (base := 0) (L := 0) (f := [0, 1]) (by decide) (by decide) (Nat.le_of_ble_eq_true rfl) rfl (.cons (At.blk (by kernel_rfl) (RnB.lit (.cons (.flat (by kernel_rfl)) (.cons (.flat (by kernel_rfl)) (.cons (.flat (by kernel_rfl)) (.cons (.flat (by kernel_rfl)) (.cons (.flat (by kernel_rfl)) (.cons (.flat (by kernel_rfl)) (.cons (.flat (by kernel_rfl)) (.cons (.flat (by kernel_rfl)) .nil)))))))))) (.cons (At.blk (by kernel_rfl) (RnB.lit (.cons (.flat (by kernel_rfl)) (.cons (.flat (by kernel_rfl)) (.cons (.flat (by kernel_rfl)) (.cons (.flat (by kernel_rfl)) (.cons (.flat (by kernel_rfl)) (.cons (.flat (by kernel_rfl)) (.cons (.flat (by kernel_rfl)) (.cons (.flat (by kernel_rfl)) .nil)))))))))) (.nil _))) (LRn.stx [2, 3] [.pointer (some ⟨0, 0, none⟩), .pointer (some ⟨1, 0, none⟩)] [.pointer (some ⟨0, 0, none⟩), .pointer (some ⟨1, 0, none⟩)] (.cons (Rn.ptr _ _ _ (Nat.le_of_ble_eq_true rfl) rfl) (.cons (Rn.ptr _ _ _ (Nat.le_of_ble_eq_true rfl) rfl) .nil)) (by kernel_rfl) (by kernel_rfl) rfl) rfl rfl) (ih (r59.1, r59.2, z68.1, z68.2.1, r61.1, r61.2, z68.2.2.2.2.1, z68.2.2.2.2.2.1) _ hF)
theorem B61 (p0 : Int) (p1 : Int) (p2 : Int) (p3 : Int) (r : (((Int × Int) × (Int × Int)) × (Int × Int) × (Int × Int))) (hF : F61 p0 p1 p2 p3 = some r) : TS Try.prog 0 0 c61 (st 73 [(0, .agg ⟨[.int .i64 p0, .int .i64 p1, .int .i64 p2, .int .i64 p3]⟩)]) [] (NX Try.prog 0 0 [] (FinP Try.prog Try.f61 0 (V61 0 r) (N61 0 r))) := by
  unfold F61 at hF
  refine TS.seq' (x := c61.s1) (y := c61.s2) (by kernel_rfl) ?_
  refine TS.region' (id := 0) (b := false) (ops := c61.s1.rops) (by kernel_rfl) rfl ?_
  refine TI.run 2 [1, 2] [0, 1] (a2 := (st 73 [(1, .pointer (some ⟨0, 0, none⟩)), (2, .pointer (some ⟨1, 0, none⟩))])) (h2 := [.cells 25 [.int .i64 p0, .int .i64 p1, .int .i64 p2, .int .i64 p3], .cells 108 [.int .i64 0, .int .i64 0, .int .i64 0, .int .i64 0, .int .i64 0, .int .i64 0, .int .i64 0, .int .i64 0]]) (by kernel_rfl) ?_
  refine TI.done (by kernel_rfl) ?_
  refine NX.sq ?_
  refine TS.seq' (x := c61.s2.s1) (y := c61.s2.s2) (by kernel_rfl) ?_
  refine TS.region' (id := 1) (b := false) (ops := c61.s2.s1.rops) (by kernel_rfl) rfl ?_
  refine TI.run 6 [2, 3] [1, 2] (a2 := (st 73 [(2, .pointer (some ⟨1, 0, none⟩)), (3, .pointer (some ⟨2, 0, none⟩))])) (h2 := [.dead, .cells 108 [.int .i64 0, .int .i64 0, .int .i64 0, .int .i64 0, .int .i64 0, .int .i64 0, .int .i64 0, .int .i64 0], .cells 108 [.int .i64 p0, .int .i64 p1, .int .i64 p2, .int .i64 p3, .int .i64 1, .int .i64 0, .int .i64 0, .int .i64 1]]) (by kernel_rfl) ?_
  refine TI.done (by kernel_rfl) ?_
  refine NX.sq ?_
  refine TS.block' (id := 0) (x := c61.s2.s2.bd) (by kernel_rfl) ?_
  have hX := of_do hF
  clear hF
  obtain ⟨r69, h70, hF⟩ := hX
  refine TS.loop' (x := c61.s2.s2.bd.bd) (by kernel_rfl) (TL.weak (a2 := (st 73 [(2, .pointer (some ⟨0, 0, none⟩)), (3, .pointer (some ⟨1, 0, none⟩))])) (h2 := [.cells 108 [.int .i64 0, .int .i64 0, .int .i64 0, .int .i64 0, .int .i64 0, .int .i64 0, .int .i64 0, .int .i64 0], .cells 108 [.int .i64 p0, .int .i64 p1, .int .i64 p2, .int .i64 p3, .int .i64 1, .int .i64 0, .int .i64 0, .int .i64 1]]) (Wk.anew (base := 0) (L := 0) (f := [1, 2]) (by decide) (by decide) (Nat.le_of_ble_eq_true rfl) rfl (.cons (At.blk (by kernel_rfl) (RnB.lit (.cons (.flat (by kernel_rfl)) (.cons (.flat (by kernel_rfl)) (.cons (.flat (by kernel_rfl)) (.cons (.flat (by kernel_rfl)) (.cons (.flat (by kernel_rfl)) (.cons (.flat (by kernel_rfl)) (.cons (.flat (by kernel_rfl)) (.cons (.flat (by kernel_rfl)) .nil)))))))))) (.cons (At.blk (by kernel_rfl) (RnB.lit (.cons (.flat (by kernel_rfl)) (.cons (.flat (by kernel_rfl)) (.cons (.flat (by kernel_rfl)) (.cons (.flat (by kernel_rfl)) (.cons (.flat (by kernel_rfl)) (.cons (.flat (by kernel_rfl)) (.cons (.flat (by kernel_rfl)) (.cons (.flat (by kernel_rfl)) .nil)))))))))) (.nil _))) (LRn.stx [2, 3] [.pointer (some ⟨0, 0, none⟩), .pointer (some ⟨1, 0, none⟩)] [.pointer (some ⟨1, 0, none⟩), .pointer (some ⟨2, 0, none⟩)] (.cons (Rn.ptr _ _ _ (Nat.le_of_ble_eq_true rfl) rfl) (.cons (Rn.ptr _ _ _ (Nat.le_of_ble_eq_true rfl) rfl) .nil)) (by kernel_rfl) (by kernel_rfl) rfl) rfl rfl) (TL.post (L61l0  p0 p1 p2 p3 1 0 0 1 r69 h70) ?_))
  rintro e a1 h1 hp
  obtain ⟨rfl, hw⟩ := hp
  refine ⟨(st 73 [(2, .pointer (some ⟨0, 0, none⟩))]), [.cells 108 [.int .i64 r69.1, .int .i64 r69.2.1, .int .i64 r69.2.2.1, .int .i64 r69.2.2.2.1, .int .i64 r69.2.2.2.2.1, .int .i64 r69.2.2.2.2.2.1, .int .i64 r69.2.2.2.2.2.2.1, .int .i64 r69.2.2.2.2.2.2.2]], ?_, hw⟩
  refine NX.bkR ?_
  have hF := Option.some.inj hF
  subst hF
  exact ⟨.inr rfl, rfl, .agg ⟨[.int .i64 r69.1, .int .i64 r69.2.1, .int .i64 r69.2.2.1, .int .i64 r69.2.2.2.1, .int .i64 r69.2.2.2.2.1, .int .i64 r69.2.2.2.2.2.1, .int .i64 r69.2.2.2.2.2.2.1, .int .i64 r69.2.2.2.2.2.2.2]⟩, by kernel_rfl, WkV.flat0 (by kernel_rfl) (Nat.le_of_ble_eq_true rfl)⟩
theorem C61 (p0 : Int) (p1 : Int) (p2 : Int) (p3 : Int) (r : (((Int × Int) × (Int × Int)) × (Int × Int) × (Int × Int))) (hF : F61 p0 p1 p2 p3 = some r) : PureSim Try.prog 61 [.agg ⟨[.int .i64 p0, .int .i64 p1, .int .i64 p2, .int .i64 p3]⟩] [] (V61 0 r) (N61 0 r) :=
  PureSim.of_Fin Try.func61 (c := c61) (by kernel_rfl) (by kernel_rfl) 0 rfl [0] [] (by kernel_rfl) (B61 p0 p1 p2 p3 r hF)

-- agonic/magnet.Reduce
noncomputable def c23 : Code := Try.f23.code
def F23 (p0 : Int) (p1 : Int) (p2 : Int) (p3 : Int) : Option ((Int × Int) × (Int × Int) × Int) :=
  F20 p0 p1 p2 p3 >>= fun r1 =>
  if r1 != 0 then
    some ((0, 0), (0, 0), r1)
  else
    F61 p0 p1 p2 p3 >>= fun r4 =>
    some ((r4.2.1.1, r4.2.1.2), (r4.2.2.1, r4.2.2.2), 0)
def V23 (b : Nat) (r : ((Int × Int) × (Int × Int) × Int)) : Value := .tuple ⟨[.agg ⟨[.int .i64 r.1.1, .int .i64 r.1.2]⟩, .agg ⟨[.int .i64 r.2.1.1, .int .i64 r.2.1.2]⟩, .int .i64 r.2.2]⟩
def N23 (b : Nat) (r : ((Int × Int) × (Int × Int) × Int)) : List Blk := []
theorem B23 (p0 : Int) (p1 : Int) (p2 : Int) (p3 : Int) (r : ((Int × Int) × (Int × Int) × Int)) (hF : F23 p0 p1 p2 p3 = some r) : TS Try.prog 0 0 c23 (st 20 [(0, .agg ⟨[.int .i64 p0, .int .i64 p1, .int .i64 p2, .int .i64 p3]⟩)]) [] (NX Try.prog 0 0 [] (FinP Try.prog Try.f23 0 (V23 0 r) (N23 0 r))) := by
  unfold F23 at hF
  refine TS.seq' (x := c23.s1) (y := c23.s2) (by kernel_rfl) ?_
  refine TS.region' (id := 0) (b := false) (ops := c23.s1.rops) (by kernel_rfl) rfl ?_
  refine TI.run 4 [1, 2, 3] [0, 1, 2] (a2 := (st 20 [(1, .pointer (some ⟨0, 0, none⟩)), (2, .pointer (some ⟨1, 0, none⟩)), (3, .pointer (some ⟨2, 0, none⟩))])) (h2 := [.cells 25 [.int .i64 p0, .int .i64 p1, .int .i64 p2, .int .i64 p3], .cells 27 [.int .i64 0, .int .i64 0], .cells 27 [.int .i64 0, .int .i64 0]]) (by kernel_rfl) ?_
  refine TI.done (by kernel_rfl) ?_
  refine NX.sq ?_
  refine TS.seq' (x := c23.s2.s1) (y := c23.s2.s2) (by kernel_rfl) ?_
  refine TS.seq' (x := c23.s2.s1.s1) (y := c23.s2.s1.s2) (by kernel_rfl) ?_
  have hX := of_do hF
  clear hF
  obtain ⟨r1, h2, hF⟩ := hX
  refine TS.region' (id := 1) (b := false) (ops := c23.s2.s1.s1.rops) (by kernel_rfl) rfl ?_
  refine TI.run 1 [1, 2, 3, 7] [0, 1, 2] (a2 := (st 20 [(1, .pointer (some ⟨0, 0, none⟩)), (2, .pointer (some ⟨1, 0, none⟩)), (3, .pointer (some ⟨2, 0, none⟩)), (7, .agg ⟨[.int .i64 p0, .int .i64 p1, .int .i64 p2, .int .i64 p3]⟩)])) (h2 := [.cells 25 [.int .i64 p0, .int .i64 p1, .int .i64 p2, .int .i64 p3], .cells 27 [.int .i64 0, .int .i64 0], .cells 27 [.int .i64 0, .int .i64 0]]) (by kernel_rfl) ?_
  refine TI.callM (g := 20) (args := [.agg ⟨[.int .i64 p0, .int .i64 p1, .int .i64 p2, .int .i64 p3]⟩]) (v := .int .i64 r1) (new := []) (by kernel_rfl) (PureSim.any (C20 p0 p1 p2 p3 r1 h2) (flatL (by kernel_rfl)) (by kernel_rfl) [.cells 25 [.int .i64 p0, .int .i64 p1, .int .i64 p2, .int .i64 p3], .cells 27 [.int .i64 0, .int .i64 0], .cells 27 [.int .i64 0, .int .i64 0]]) [1, 2, 3, 8] [0, 1, 2] (a2 := (st 20 [(1, .pointer (some ⟨0, 0, none⟩)), (2, .pointer (some ⟨1, 0, none⟩)), (3, .pointer (some ⟨2, 0, none⟩)), (8, .int .i64 r1)])) (h2 := [.cells 25 [.int .i64 p0, .int .i64 p1, .int .i64 p2, .int .i64 p3], .cells 27 [.int .i64 0, .int .i64 0], .cells 27 [.int .i64 0, .int .i64 0]]) (by kernel_rfl) ?_
  refine TI.run 1 [1, 2, 3, 5] [0, 1, 2] (a2 := (st 20 [(1, .pointer (some ⟨0, 0, none⟩)), (2, .pointer (some ⟨1, 0, none⟩)), (3, .pointer (some ⟨2, 0, none⟩)), (5, .int .i64 r1)])) (h2 := [.cells 25 [.int .i64 p0, .int .i64 p1, .int .i64 p2, .int .i64 p3], .cells 27 [.int .i64 0, .int .i64 0], .cells 27 [.int .i64 0, .int .i64 0]]) (by kernel_rfl) ?_
  refine TI.done (by kernel_rfl) ?_
  refine NX.sq ?_
  refine TS.seq' (x := c23.s2.s1.s2.s1) (y := c23.s2.s1.s2.s2) (by kernel_rfl) ?_
  refine TS.region' (id := 2) (b := false) (ops := c23.s2.s1.s2.s1.rops) (by kernel_rfl) rfl ?_
  refine TI.run 2 [1, 2, 3, 5, 10] [0, 1, 2] (a2 := (st 20 [(1, .pointer (some ⟨0, 0, none⟩)), (2, .pointer (some ⟨1, 0, none⟩)), (3, .pointer (some ⟨2, 0, none⟩)), (5, .int .i64 r1), (10, .bool (r1 != 0))])) (h2 := [.cells 25 [.int .i64 p0, .int .i64 p1, .int .i64 p2, .int .i64 p3], .cells 27 [.int .i64 0, .int .i64 0], .cells 27 [.int .i64 0, .int .i64 0]]) (by kernel_rfl) ?_
  refine TI.done (by kernel_rfl) ?_
  refine NX.sq ?_
  refine TS.cond' (o := (.tmp 10)) (x := c23.s2.s1.s2.s2.th) (y := c23.s2.s1.s2.s2.el) (b := r1 != 0) (by kernel_rfl) (by kernel_rfl) (fun hc3 => ?_) (fun hc3 => ?_)
  · replace hF := of_pos hF hc3
    refine TS.seq' (x := c23.s2.s1.s2.s2.th.s1) (y := c23.s2.s1.s2.s2.th.s2) (by kernel_rfl) ?_
    refine TS.region' (id := 3) (b := false) (ops := c23.s2.s1.s2.s2.th.s1.rops) (by kernel_rfl) rfl ?_
    refine TI.run 6 [2, 3, 4] [1, 2] (a2 := (st 20 [(2, .pointer (some ⟨1, 0, none⟩)), (3, .pointer (some ⟨2, 0, none⟩)), (4, .int .i64 r1)])) (h2 := [.dead, .cells 27 [.int .i64 0, .int .i64 0], .cells 27 [.int .i64 0, .int .i64 0]]) (by kernel_rfl) ?_
    refine TI.done (by kernel_rfl) ?_
    refine NX.sq ?_
    refine TS.ret' (by kernel_rfl) ?_
    refine NX.sqR ?_
    have hF := Option.some.inj hF
    subst hF
    exact ⟨.inr rfl, rfl, .tuple ⟨[.agg ⟨[.int .i64 0, .int .i64 0]⟩, .agg ⟨[.int .i64 0, .int .i64 0]⟩, .int .i64 r1]⟩, by kernel_rfl, WkV.flat0 (by kernel_rfl) (Nat.le_of_ble_eq_true rfl)⟩
  · replace hF := of_neg hF hc3
    refine TS.skip' (by kernel_rfl) ?_
    refine NX.sq ?_
    refine TS.seq' (x := c23.s2.s2.s1) (y := c23.s2.s2.s2) (by kernel_rfl) ?_
    have hX := of_do hF
    clear hF
    obtain ⟨r4, h5, hF⟩ := hX
    refine TS.region' (id := 4) (b := false) (ops := c23.s2.s2.s1.rops) (by kernel_rfl) rfl ?_
    refine TI.run 1 [2, 3, 14] [1, 2] (a2 := (st 20 [(2, .pointer (some ⟨1, 0, none⟩)), (3, .pointer (some ⟨2, 0, none⟩)), (14, .agg ⟨[.int .i64 p0, .int .i64 p1, .int .i64 p2, .int .i64 p3]⟩)])) (h2 := [.dead, .cells 27 [.int .i64 0, .int .i64 0], .cells 27 [.int .i64 0, .int .i64 0]]) (by kernel_rfl) ?_
    refine TI.callM (g := 61) (args := [.agg ⟨[.int .i64 p0, .int .i64 p1, .int .i64 p2, .int .i64 p3]⟩]) (v := .agg ⟨[.int .i64 r4.1.1.1, .int .i64 r4.1.1.2, .int .i64 r4.1.2.1, .int .i64 r4.1.2.2, .int .i64 r4.2.1.1, .int .i64 r4.2.1.2, .int .i64 r4.2.2.1, .int .i64 r4.2.2.2]⟩) (new := []) (by kernel_rfl) (PureSim.any (C61 p0 p1 p2 p3 r4 h5) (flatL (by kernel_rfl)) (by kernel_rfl) [.dead, .cells 27 [.int .i64 0, .int .i64 0], .cells 27 [.int .i64 0, .int .i64 0]]) [2, 3, 15] [1, 2] (a2 := (st 20 [(2, .pointer (some ⟨1, 0, none⟩)), (3, .pointer (some ⟨2, 0, none⟩)), (15, .agg ⟨[.int .i64 r4.1.1.1, .int .i64 r4.1.1.2, .int .i64 r4.1.2.1, .int .i64 r4.1.2.2, .int .i64 r4.2.1.1, .int .i64 r4.2.1.2, .int .i64 r4.2.2.1, .int .i64 r4.2.2.2]⟩)])) (h2 := [.dead, .cells 27 [.int .i64 0, .int .i64 0], .cells 27 [.int .i64 0, .int .i64 0]]) (by kernel_rfl) ?_
    refine TI.run 2 [2, 3, 6] [1, 2, 3] (a2 := (st 20 [(2, .pointer (some ⟨1, 0, none⟩)), (3, .pointer (some ⟨2, 0, none⟩)), (6, .pointer (some ⟨3, 0, none⟩))])) (h2 := [.dead, .cells 27 [.int .i64 0, .int .i64 0], .cells 27 [.int .i64 0, .int .i64 0], .cells 108 [.int .i64 r4.1.1.1, .int .i64 r4.1.1.2, .int .i64 r4.1.2.1, .int .i64 r4.1.2.2, .int .i64 r4.2.1.1, .int .i64 r4.2.1.2, .int .i64 r4.2.2.1, .int .i64 r4.2.2.2]]) (by kernel_rfl) ?_
    refine TI.done (by kernel_rfl) ?_
    refine NX.sq ?_
    refine TS.seq' (x := c23.s2.s2.s2.s1) (y := c23.s2.s2.s2.s2) (by kernel_rfl) ?_
    refine TS.draw' (id := 5) (b := true) (ops := c23.s2.s2.s2.s1.rops) (fin := ({ act := (st 20 [(2, .pointer (some ⟨1, 0, none⟩)), (3, .pointer (some ⟨2, 0, none⟩)), (6, .pointer (some ⟨3, 0, none⟩)), (16, .pointer (some ⟨3, 4, none⟩)), (17, .agg ⟨[.int .i64 r4.2.1.1, .int .i64 r4.2.1.2]⟩), (18, .pointer (some ⟨3, 6, none⟩)), (19, .agg ⟨[.int .i64 r4.2.2.1, .int .i64 r4.2.2.2]⟩)]), heap := [.dead, .cells 27 [.int .i64 r4.2.1.1, .int .i64 r4.2.1.2], .cells 27 [.int .i64 0, .int .i64 0], .cells 108 [.int .i64 r4.1.1.1, .int .i64 r4.1.1.2, .int .i64 r4.1.2.1, .int .i64 r4.1.2.2, .int .i64 r4.2.1.1, .int .i64 r4.2.1.2, .int .i64 r4.2.2.1, .int .i64 r4.2.2.2]], own := [], upds := [(4, 1)] } : QSt)) (fin2 := ({ act := (st 20 [(2, .pointer (some ⟨1, 0, none⟩)), (3, .pointer (some ⟨2, 0, none⟩)), (6, .pointer (some ⟨3, 0, none⟩)), (16, .pointer (some ⟨3, 4, none⟩)), (17, .agg ⟨[.int .i64 r4.2.1.1, .int .i64 r4.2.1.2]⟩), (18, .pointer (some ⟨3, 6, none⟩)), (19, .agg ⟨[.int .i64 r4.2.2.1, .int .i64 r4.2.2.2]⟩)]), heap := [.dead, .cells 27 [.int .i64 r4.2.1.1, .int .i64 r4.2.1.2], .cells 27 [.int .i64 0, .int .i64 0], .cells 108 [.int .i64 r4.1.1.1, .int .i64 r4.1.1.2, .int .i64 r4.1.2.1, .int .i64 r4.1.2.2, .int .i64 r4.2.1.1, .int .i64 r4.2.1.2, .int .i64 r4.2.2.1, .int .i64 r4.2.2.2]], own := [], upds := [(4, 1)] } : QSt)) (a1 := (st 20 [(2, .pointer (some ⟨1, 0, none⟩)), (3, .pointer (some ⟨2, 0, none⟩)), (4, .int .i64 0), (6, .pointer (some ⟨3, 0, none⟩)), (16, .pointer (some ⟨3, 4, none⟩)), (17, .agg ⟨[.int .i64 r4.2.1.1, .int .i64 r4.2.1.2]⟩), (18, .pointer (some ⟨3, 6, none⟩)), (19, .agg ⟨[.int .i64 r4.2.2.1, .int .i64 r4.2.2.2]⟩)])) (h1 := [.dead, .cells 27 [.int .i64 r4.2.1.1, .int .i64 r4.2.1.2], .cells 27 [.int .i64 r4.2.2.1, .int .i64 r4.2.2.2], .cells 108 [.int .i64 r4.1.1.1, .int .i64 r4.1.1.2, .int .i64 r4.1.2.1, .int .i64 r4.1.2.2, .int .i64 r4.2.1.1, .int .i64 r4.2.1.2, .int .i64 r4.2.2.1, .int .i64 r4.2.2.2]]) (a2 := (st 20 [(2, .pointer (some ⟨1, 0, none⟩)), (3, .pointer (some ⟨2, 0, none⟩)), (4, .int .i64 0)])) (h2 := [.dead, .cells 27 [.int .i64 r4.2.1.1, .int .i64 r4.2.1.2], .cells 27 [.int .i64 r4.2.2.1, .int .i64 r4.2.2.2], .dead]) [] (fun e he => by cases he) mixed (by kernel_rfl) rfl 5 (by kernel_rfl) [(4, 1)] ?_ rfl (.inr ⟨?_, (by kernel_rfl)⟩) ?_ [2, 3, 4] [1, 2] (by kernel_rfl) ?_
    · refine QI.run (s1 := ({ act := (st 20 [(2, .pointer (some ⟨1, 0, none⟩)), (3, .pointer (some ⟨2, 0, none⟩)), (6, .pointer (some ⟨3, 0, none⟩)), (16, .pointer (some ⟨3, 4, none⟩)), (17, .agg ⟨[.int .i64 r4.2.1.1, .int .i64 r4.2.1.2]⟩), (18, .pointer (some ⟨3, 6, none⟩)), (19, .agg ⟨[.int .i64 r4.2.2.1, .int .i64 r4.2.2.2]⟩)]), heap := [.dead, .cells 27 [.int .i64 r4.2.1.1, .int .i64 r4.2.1.2], .cells 27 [.int .i64 0, .int .i64 0], .cells 108 [.int .i64 r4.1.1.1, .int .i64 r4.1.1.2, .int .i64 r4.1.2.1, .int .i64 r4.1.2.2, .int .i64 r4.2.1.1, .int .i64 r4.2.1.2, .int .i64 r4.2.2.1, .int .i64 r4.2.2.2]], own := [], upds := [(4, 1)] } : QSt)) 5 (by kernel_rfl) (by kernel_rfl) ?_
      exact QI.done (by kernel_rfl)
    · refine QI.run (s1 := ({ act := (st 20 [(2, .pointer (some ⟨1, 0, none⟩)), (3, .pointer (some ⟨2, 0, none⟩)), (6, .pointer (some ⟨3, 0, none⟩)), (16, .pointer (some ⟨3, 4, none⟩)), (17, .agg ⟨[.int .i64 r4.2.1.1, .int .i64 r4.2.1.2]⟩), (18, .pointer (some ⟨3, 6, none⟩)), (19, .agg ⟨[.int .i64 r4.2.2.1, .int .i64 r4.2.2.2]⟩)]), heap := [.dead, .cells 27 [.int .i64 r4.2.1.1, .int .i64 r4.2.1.2], .cells 27 [.int .i64 0, .int .i64 0], .cells 108 [.int .i64 r4.1.1.1, .int .i64 r4.1.1.2, .int .i64 r4.1.2.1, .int .i64 r4.1.2.2, .int .i64 r4.2.1.1, .int .i64 r4.2.1.2, .int .i64 r4.2.2.1, .int .i64 r4.2.2.2]], own := [], upds := [(4, 1)] } : QSt)) 5 (by kernel_rfl) (by kernel_rfl) ?_
      exact QI.done (by kernel_rfl)
    · refine SI.run (a2 := (st 20 [(2, .pointer (some ⟨1, 0, none⟩)), (3, .pointer (some ⟨2, 0, none⟩)), (4, .int .i64 0), (6, .pointer (some ⟨3, 0, none⟩)), (16, .pointer (some ⟨3, 4, none⟩)), (17, .agg ⟨[.int .i64 r4.2.1.1, .int .i64 r4.2.1.2]⟩), (18, .pointer (some ⟨3, 6, none⟩)), (19, .agg ⟨[.int .i64 r4.2.2.1, .int .i64 r4.2.2.2]⟩)])) (h2 := [.dead, .cells 27 [.int .i64 r4.2.1.1, .int .i64 r4.2.1.2], .cells 27 [.int .i64 r4.2.2.1, .int .i64 r4.2.2.2], .cells 108 [.int .i64 r4.1.1.1, .int .i64 r4.1.1.2, .int .i64 r4.1.2.1, .int .i64 r4.1.2.2, .int .i64 r4.2.1.1, .int .i64 r4.2.1.2, .int .i64 r4.2.2.1, .int .i64 r4.2.2.2]]) 2 (by kernel_rfl) ?_
      exact SI.done (by kernel_rfl)
    refine TS.ret' (by kernel_rfl) ?_
    have hF := Option.some.inj hF
    subst hF
    exact ⟨.inr rfl, rfl, .tuple ⟨[.agg ⟨[.int .i64 r4.2.1.1, .int .i64 r4.2.1.2]⟩, .agg ⟨[.int .i64 r4.2.2.1, .int .i64 r4.2.2.2]⟩, .int .i64 0]⟩, by kernel_rfl, WkV.flat0 (by kernel_rfl) (Nat.le_of_ble_eq_true rfl)⟩
theorem C23 (p0 : Int) (p1 : Int) (p2 : Int) (p3 : Int) (r : ((Int × Int) × (Int × Int) × Int)) (hF : F23 p0 p1 p2 p3 = some r) : PureSim Try.prog 23 [.agg ⟨[.int .i64 p0, .int .i64 p1, .int .i64 p2, .int .i64 p3]⟩] [] (V23 0 r) (N23 0 r) :=
  PureSim.of_Fin Try.func23 (c := c23) (by kernel_rfl) (by kernel_rfl) 0 rfl [0] [] (by kernel_rfl) (B23 p0 p1 p2 p3 r hF)

-- agonic/agonicref06.is
noncomputable def c73 : Code := Try.f73.code
def F73 (p0 : Int) (p1 : Int) (p2 : Int) : Option Bool :=
  (
    if decide (p0 ≥ p1) then
      some (decide (p0 ≤ p2))
    else
      some (false)
  : Option Bool) >>= fun m2 =>
  some m2
def V73 (b : Nat) (r : Bool) : Value := .bool r
def N73 (b : Nat) (r : Bool) : List Blk := []
theorem B73 (p0 : Int) (p1 : Int) (p2 : Int) (r : Bool) (hF : F73 p0 p1 p2 = some r) : TS Try.prog 0 0 c73 (st 15 [(0, .int .i64 p0), (1, .int .i64 p1), (2, .int .i64 p2)]) [] (NX Try.prog 0 0 [] (FinP Try.prog Try.f73 0 (V73 0 r) (N73 0 r))) := by
  unfold F73 at hF
  refine TS.seq' (x := c73.s1) (y := c73.s2) (by kernel_rfl) ?_
  refine TS.region' (id := 0) (b := false) (ops := c73.s1.rops) (by kernel_rfl) rfl ?_
  refine TI.run 1 [0, 1, 2] [] (a2 := (st 15 [(0, .int .i64 p0), (1, .int .i64 p1), (2, .int .i64 p2)])) (h2 := []) (by kernel_rfl) ?_
  refine TI.done (by kernel_rfl) ?_
  refine NX.sq ?_
  refine TS.seq' (x := c73.s2.s1) (y := c73.s2.s2) (by kernel_rfl) ?_
  have hX := of_do hF
  clear hF
  obtain ⟨m2, hm3, hF⟩ := hX
  have hK : NX Try.prog 0 0 [.sq c73.s2.s2] (FinP Try.prog Try.f73 0 (V73 0 r) (N73 0 r)) .normal (st 15 [(6, .bool m2)]) [] := by
    refine NX.sq ?_
    refine TS.ret' (by kernel_rfl) ?_
    have hF := Option.some.inj hF
    subst hF
    exact ⟨.inr rfl, rfl, .bool m2, by kernel_rfl, WkV.flat0 (by kernel_rfl) (Nat.le_of_ble_eq_true rfl)⟩
  rcases Bool.eq_false_or_eq_true (decide (p0 ≥ p1)) with hc1 | hc1
  · replace hm3 := of_pos hm3 hc1
    have hm3 := Option.some.inj hm3
    subst hm3
    refine TS.region' (id := 1) (b := false) (ops := c73.s2.s1.rops) (by kernel_rfl) rfl ?_
    refine TI.run 2 [0, 2, 7, 8] [] (a2 := (st 15 [(0, .int .i64 p0), (2, .int .i64 p2), (7, .int .i64 p0), (8, .int .i64 p1)])) (h2 := []) (by kernel_rfl) ?_
    refine TI.op (q := { val := .bool true }) (q_conv (e := decide (p0 ≥ p1)) (b := true) (by kernel_rfl) hc1) [0, 2, 9] [] (a2 := (st 15 [(0, .int .i64 p0), (2, .int .i64 p2), (9, .bool true)])) (h2 := []) (by kernel_rfl) ?_
    refine TI.run 6 [6] [] (a2 := (st 15 [(6, .bool (decide (p0 ≤ p2)))])) (h2 := []) (by kernel_rfl) ?_
    refine TI.done (by kernel_rfl) ?_
    exact hK
  · replace hm3 := of_neg hm3 hc1
    have hm3 := Option.some.inj hm3
    subst hm3
    refine TS.region' (id := 1) (b := false) (ops := c73.s2.s1.rops) (by kernel_rfl) rfl ?_
    refine TI.run 2 [0, 2, 7, 8] [] (a2 := (st 15 [(0, .int .i64 p0), (2, .int .i64 p2), (7, .int .i64 p0), (8, .int .i64 p1)])) (h2 := []) (by kernel_rfl) ?_
    refine TI.op (q := { val := .bool false }) (q_conv (e := decide (p0 ≥ p1)) (b := false) (by kernel_rfl) hc1) [0, 2, 9] [] (a2 := (st 15 [(0, .int .i64 p0), (2, .int .i64 p2), (9, .bool false)])) (h2 := []) (by kernel_rfl) ?_
    refine TI.run 6 [6] [] (a2 := (st 15 [(6, .bool false)])) (h2 := []) (by kernel_rfl) ?_
    refine TI.done (by kernel_rfl) ?_
    exact hK
theorem C73 (p0 : Int) (p1 : Int) (p2 : Int) (r : Bool) (hF : F73 p0 p1 p2 = some r) : PureSim Try.prog 73 [.int .i64 p0, .int .i64 p1, .int .i64 p2] [] (V73 0 r) (N73 0 r) :=
  PureSim.of_Fin Try.func73 (c := c73) (by kernel_rfl) (by kernel_rfl) 0 rfl [0, 1, 2] [] (by kernel_rfl) (B73 p0 p1 p2 r hF)

-- agonic/agonicref06.within
noncomputable def c55 : Code := Try.f55.code
def F55 (p0 : Int) (p1 : Int) (p2 : Int) : Option Bool :=
  F73 p0 (w64 (0 - p2)) p2 >>= fun r1 =>
  (
    if r1 then
      F73 p1 (w64 (0 - p2)) p2 >>= fun r3 =>
      some (r3)
    else
      some (false)
  : Option Bool) >>= fun m5 =>
  some m5
def V55 (b : Nat) (r : Bool) : Value := .bool r
def N55 (b : Nat) (r : Bool) : List Blk := []
theorem B55 (p0 : Int) (p1 : Int) (p2 : Int) (r : Bool) (hF : F55 p0 p1 p2 = some r) : TS Try.prog 0 0 c55 (st 19 [(0, .agg ⟨[.int .i64 p0, .int .i64 p1]⟩), (1, .int .i64 p2)]) [] (NX Try.prog 0 0 [] (FinP Try.prog Try.f55 0 (V55 0 r) (N55 0 r))) := by
  unfold F55 at hF
  refine TS.seq' (x := c55.s1) (y := c55.s2) (by kernel_rfl) ?_
  refine TS.region' (id := 0) (b := false) (ops := c55.s1.rops) (by kernel_rfl) rfl ?_
  refine TI.run 2 [1, 2] [0] (a2 := (st 19 [(1, .int .i64 p2), (2, .pointer (some ⟨0, 0, none⟩))])) (h2 := [.cells 28 [.int .i64 p0, .int .i64 p1]]) (by kernel_rfl) ?_
  refine TI.done (by kernel_rfl) ?_
  refine NX.sq ?_
  refine TS.seq' (x := c55.s2.s1) (y := c55.s2.s2) (by kernel_rfl) ?_
  have hX := of_do hF
  clear hF
  obtain ⟨r1, h2, hF⟩ := hX
  have hX := of_do hF
  clear hF
  obtain ⟨m5, hm6, hF⟩ := hX
  have hK : NX Try.prog 0 0 [.sq c55.s2.s2] (FinP Try.prog Try.f55 0 (V55 0 r) (N55 0 r)) .normal (st 19 [(4, .bool m5)]) [.dead] := by
    refine NX.sq ?_
    refine TS.ret' (by kernel_rfl) ?_
    have hF := Option.some.inj hF
    subst hF
    exact ⟨.inr rfl, rfl, .bool m5, by kernel_rfl, WkV.flat0 (by kernel_rfl) (Nat.le_of_ble_eq_true rfl)⟩
  cases r1 with
  | true =>
    replace hm6 := of_pos hm6 rfl
    have hX := of_do hm6
    clear hm6
    obtain ⟨r3, h4, hm6⟩ := hX
    have hm6 := Option.some.inj hm6
    subst hm6
    refine TS.region' (id := 1) (b := false) (ops := c55.s2.s1.rops) (by kernel_rfl) rfl ?_
    refine TI.run 5 [1, 2, 6, 8, 9] [0] (a2 := (st 19 [(1, .int .i64 p2), (2, .pointer (some ⟨0, 0, none⟩)), (6, .int .i64 p0), (8, .int .i64 (w64 (0 - p2))), (9, .int .i64 p2)])) (h2 := [.cells 28 [.int .i64 p0, .int .i64 p1]]) (by kernel_rfl) ?_
    refine TI.callM (g := 73) (args := [.int .i64 p0, .int .i64 (w64 (0 - p2)), .int .i64 p2]) (v := .bool true) (new := []) (by kernel_rfl) (PureSim.any (C73 p0 (w64 (0 - p2)) p2 true h2) (flatL (by kernel_rfl)) (by kernel_rfl) [.cells 28 [.int .i64 p0, .int .i64 p1]]) [1, 2, 10] [0] (a2 := (st 19 [(1, .int .i64 p2), (2, .pointer (some ⟨0, 0, none⟩)), (10, .bool true)])) (h2 := [.cells 28 [.int .i64 p0, .int .i64 p1]]) (by kernel_rfl) ?_
    refine TI.run 6 [11, 13, 15, 16] [] (a2 := (st 19 [(11, .bool true), (13, .int .i64 p1), (15, .int .i64 (w64 (0 - p2))), (16, .int .i64 p2)])) (h2 := [.dead]) (by kernel_rfl) ?_
    refine TI.callM (g := 73) (args := [.int .i64 p1, .int .i64 (w64 (0 - p2)), .int .i64 p2]) (v := .bool r3) (new := []) (by kernel_rfl) (PureSim.any (C73 p1 (w64 (0 - p2)) p2 r3 h4) (flatL (by kernel_rfl)) (by kernel_rfl) [.dead]) [11, 17] [] (a2 := (st 19 [(11, .bool true), (17, .bool r3)])) (h2 := [.dead]) (by kernel_rfl) ?_
    refine TI.run 2 [4] [] (a2 := (st 19 [(4, .bool r3)])) (h2 := [.dead]) (by kernel_rfl) ?_
    refine TI.done (by kernel_rfl) ?_
    exact hK
  | false =>
    replace hm6 := of_neg hm6 rfl
    have hm6 := Option.some.inj hm6
    subst hm6
    refine TS.region' (id := 1) (b := false) (ops := c55.s2.s1.rops) (by kernel_rfl) rfl ?_
    refine TI.run 5 [1, 2, 6, 8, 9] [0] (a2 := (st 19 [(1, .int .i64 p2), (2, .pointer (some ⟨0, 0, none⟩)), (6, .int .i64 p0), (8, .int .i64 (w64 (0 - p2))), (9, .int .i64 p2)])) (h2 := [.cells 28 [.int .i64 p0, .int .i64 p1]]) (by kernel_rfl) ?_
    refine TI.callM (g := 73) (args := [.int .i64 p0, .int .i64 (w64 (0 - p2)), .int .i64 p2]) (v := .bool false) (new := []) (by kernel_rfl) (PureSim.any (C73 p0 (w64 (0 - p2)) p2 false h2) (flatL (by kernel_rfl)) (by kernel_rfl) [.cells 28 [.int .i64 p0, .int .i64 p1]]) [1, 2, 10] [0] (a2 := (st 19 [(1, .int .i64 p2), (2, .pointer (some ⟨0, 0, none⟩)), (10, .bool false)])) (h2 := [.cells 28 [.int .i64 p0, .int .i64 p1]]) (by kernel_rfl) ?_
    refine TI.run 9 [4] [] (a2 := (st 19 [(4, .bool false)])) (h2 := [.dead]) (by kernel_rfl) ?_
    refine TI.done (by kernel_rfl) ?_
    exact hK
theorem C55 (p0 : Int) (p1 : Int) (p2 : Int) (r : Bool) (hF : F55 p0 p1 p2 = some r) : PureSim Try.prog 55 [.agg ⟨[.int .i64 p0, .int .i64 p1]⟩, .int .i64 p2] [] (V55 0 r) (N55 0 r) :=
  PureSim.of_Fin Try.func55 (c := c55) (by kernel_rfl) (by kernel_rfl) 0 rfl [0, 1] [] (by kernel_rfl) (B55 p0 p1 p2 r hF)

-- agonic/agonicref06.area
noncomputable def c60 : Code := Try.f60.code
def F60 (p0 : Int) (p1 : Int) (p2 : Int) (p3 : Int) : Option Int :=
  some (mx (w64 ((w64 (p0 * p3)) - (w64 (p1 * p2)))) (w64 ((w64 (p1 * p2)) - (w64 (p0 * p3))))) >>= fun o1 =>
  some o1
def V60 (b : Nat) (r : Int) : Value := .int .i64 r
def N60 (b : Nat) (r : Int) : List Blk := []
theorem B60 (p0 : Int) (p1 : Int) (p2 : Int) (p3 : Int) (r : Int) (hF : F60 p0 p1 p2 p3 = some r) : TS Try.prog 0 0 c60 (st 28 [(0, .agg ⟨[.int .i64 p0, .int .i64 p1]⟩), (1, .agg ⟨[.int .i64 p2, .int .i64 p3]⟩)]) [] (NX Try.prog 0 0 [] (FinP Try.prog Try.f60 0 (V60 0 r) (N60 0 r))) := by
  unfold F60 at hF
  refine TS.seq' (x := c60.s1) (y := c60.s2) (by kernel_rfl) ?_
  refine TS.region' (id := 0) (b := false) (ops := c60.s1.rops) (by kernel_rfl) rfl ?_
  refine TI.run 3 [2, 3] [0, 1] (a2 := (st 28 [(2, .pointer (some ⟨0, 0, none⟩)), (3, .pointer (some ⟨1, 0, none⟩))])) (h2 := [.cells 28 [.int .i64 p0, .int .i64 p1], .cells 28 [.int .i64 p2, .int .i64 p3]]) (by kernel_rfl) ?_
  refine TI.done (by kernel_rfl) ?_
  refine NX.sq ?_
  refine TS.seq' (x := c60.s2.s1) (y := c60.s2.s2) (by kernel_rfl) ?_
  have hX := of_do hF
  clear hF
  obtain ⟨o1, h2, hF⟩ := hX
  replace h2 := Option.some.inj h2
  refine TS.region' (id := 1) (b := false) (ops := c60.s2.s1.rops) (by kernel_rfl) rfl ?_
  refine TI.run 22 [15, 26] [] (a2 := (st 28 [(15, .int .i64 (w64 ((w64 (p0 * p3)) - (w64 (p1 * p2))))), (26, .int .i64 (w64 ((w64 (p1 * p2)) - (w64 (p0 * p3)))))])) (h2 := [.dead, .dead]) (by kernel_rfl) ?_
  refine TI.op (q := { val := .int .i64 o1 }) (q_convI (e := mx (w64 ((w64 (p0 * p3)) - (w64 (p1 * p2)))) (w64 ((w64 (p1 * p2)) - (w64 (p0 * p3))))) (y := o1) (by kernel_rfl) h2) [27] [] (a2 := (st 28 [(27, .int .i64 o1)])) (h2 := [.dead, .dead]) (by kernel_rfl) ?_
  refine TI.run 1 [4] [] (a2 := (st 28 [(4, .int .i64 o1)])) (h2 := [.dead, .dead]) (by kernel_rfl) ?_
  refine TI.done (by kernel_rfl) ?_
  refine NX.sq ?_
  refine TS.ret' (by kernel_rfl) ?_
  have hF := Option.some.inj hF
  subst hF
  exact ⟨.inr rfl, rfl, .int .i64 o1, by kernel_rfl, WkV.flat0 (by kernel_rfl) (Nat.le_of_ble_eq_true rfl)⟩
theorem C60 (p0 : Int) (p1 : Int) (p2 : Int) (p3 : Int) (r : Int) (hF : F60 p0 p1 p2 p3 = some r) : PureSim Try.prog 60 [.agg ⟨[.int .i64 p0, .int .i64 p1]⟩, .agg ⟨[.int .i64 p2, .int .i64 p3]⟩] [] (V60 0 r) (N60 0 r) :=
  PureSim.of_Fin Try.func60 (c := c60) (by kernel_rfl) (by kernel_rfl) 0 rfl [0, 1] [] (by kernel_rfl) (B60 p0 p1 p2 p3 r hF)

-- agonic/agonicref06.Check
noncomputable def c21 : Code := Try.f21.code
def F21 (p0 : Int) (p1 : Int) (p2 : Int) (p3 : Int) : Option Int :=
  F55 p0 p1 1000 >>= fun r1 =>
  (
    if r1 then
      F55 p2 p3 1000 >>= fun r3 =>
      if r3 then
        some (false)
      else
        some (true)
    else
      some (true)
  : Option Bool) >>= fun m5 =>
  if m5 then
    some 1
  else
    F60 p0 p1 p2 p3 >>= fun r6 =>
    if r6 == 0 then
      some 15
    else
      some 0
def V21 (b : Nat) (r : Int) : Value := .int .i64 r
def N21 (b : Nat) (r : Int) : List Blk := []
theorem B21 (p0 : Int) (p1 : Int) (p2 : Int) (p3 : Int) (r : Int) (hF : F21 p0 p1 p2 p3 = some r) : TS Try.prog 0 0 c21 (st 19 [(0, .agg ⟨[.int .i64 p0, .int .i64 p1, .int .i64 p2, .int .i64 p3]⟩)]) [] (NX Try.prog 0 0 [] (FinP Try.prog Try.f21 0 (V21 0 r) (N21 0 r))) := by
  unfold F21 at hF
  refine TS.seq' (x := c21.s1) (y := c21.s2) (by kernel_rfl) ?_
  refine TS.region' (id := 0) (b := false) (ops := c21.s1.rops) (by kernel_rfl) rfl ?_
  refine TI.run 2 [1] [0] (a2 := (st 19 [(1, .pointer (some ⟨0, 0, none⟩))])) (h2 := [.cells 30 [.int .i64 p0, .int .i64 p1, .int .i64 p2, .int .i64 p3]]) (by kernel_rfl) ?_
  refine TI.done (by kernel_rfl) ?_
  refine NX.sq ?_
  refine TS.seq' (x := c21.s2.s1) (y := c21.s2.s2) (by kernel_rfl) ?_
  refine TS.seq' (x := c21.s2.s1.s1) (y := c21.s2.s1.s2) (by kernel_rfl) ?_
  have hX := of_do hF
  clear hF
  obtain ⟨r1, h2, hF⟩ := hX
  have hX := of_do hF
  clear hF
  obtain ⟨m5, hm9, hF⟩ := hX
  have hK : NX Try.prog 0 0 [.sq c21.s2.s1.s2, .sq c21.s2.s2] (FinP Try.prog Try.f21 0 (V21 0 r) (N21 0 r)) .normal (st 19 [(1, .pointer (some ⟨0, 0, none⟩)), (12, .bool m5)]) [.cells 30 [.int .i64 p0, .int .i64 p1, .int .i64 p2, .int .i64 p3]] := by
    refine NX.sq ?_
    cases m5 with
    | true =>
      replace hF := of_pos hF rfl
      refine TS.condT' (o := (.tmp 12)) (x := c21.s2.s1.s2.th) (y := c21.s2.s1.s2.el) (by kernel_rfl) (by kernel_rfl) ?_
      refine TS.seq' (x := c21.s2.s1.s2.th.s1) (y := c21.s2.s1.s2.th.s2) (by kernel_rfl) ?_
      refine TS.region' (id := 2) (b := false) (ops := c21.s2.s1.s2.th.s1.rops) (by kernel_rfl) rfl ?_
      refine TI.run 1 [2] [] (a2 := (st 19 [(2, .int .i64 1)])) (h2 := [.dead]) (by kernel_rfl) ?_
      refine TI.done (by kernel_rfl) ?_
      refine NX.sq ?_
      refine TS.ret' (by kernel_rfl) ?_
      refine NX.sqR ?_
      have hF := Option.some.inj hF
      subst hF
      exact ⟨.inr rfl, rfl, .int .i64 1, by kernel_rfl, WkV.flat0 (by kernel_rfl) (Nat.le_of_ble_eq_true rfl)⟩
    | false =>
      replace hF := of_neg hF rfl
      refine TS.condF' (o := (.tmp 12)) (x := c21.s2.s1.s2.th) (y := c21.s2.s1.s2.el) (by kernel_rfl) (by kernel_rfl) ?_
      refine TS.skip' (by kernel_rfl) ?_
      refine NX.sq ?_
      refine TS.seq' (x := c21.s2.s2.s1) (y := c21.s2.s2.s2) (by kernel_rfl) ?_
      refine TS.seq' (x := c21.s2.s2.s1.s1) (y := c21.s2.s2.s1.s2) (by kernel_rfl) ?_
      have hX := of_do hF
      clear hF
      obtain ⟨r6, h7, hF⟩ := hX
      refine TS.region' (id := 3) (b := false) (ops := c21.s2.s2.s1.s1.rops) (by kernel_rfl) rfl ?_
      refine TI.run 4 [14, 16] [] (a2 := (st 19 [(14, .agg ⟨[.int .i64 p0, .int .i64 p1]⟩), (16, .agg ⟨[.int .i64 p2, .int .i64 p3]⟩)])) (h2 := [.dead]) (by kernel_rfl) ?_
      refine TI.callM (g := 60) (args := [.agg ⟨[.int .i64 p0, .int .i64 p1]⟩, .agg ⟨[.int .i64 p2, .int .i64 p3]⟩]) (v := .int .i64 r6) (new := []) (by kernel_rfl) (PureSim.any (C60 p0 p1 p2 p3 r6 h7) (flatL (by kernel_rfl)) (by kernel_rfl) [.dead]) [17] [] (a2 := (st 19 [(17, .int .i64 r6)])) (h2 := [.dead]) (by kernel_rfl) ?_
      refine TI.run 1 [18] [] (a2 := (st 19 [(18, .bool (r6 == 0))])) (h2 := [.dead]) (by kernel_rfl) ?_
      refine TI.done (by kernel_rfl) ?_
      refine NX.sq ?_
      refine TS.cond' (o := (.tmp 18)) (x := c21.s2.s2.s1.s2.th) (y := c21.s2.s2.s1.s2.el) (b := r6 == 0) (by kernel_rfl) (by kernel_rfl) (fun hc8 => ?_) (fun hc8 => ?_)
      · replace hF := of_pos hF hc8
        refine TS.seq' (x := c21.s2.s2.s1.s2.th.s1) (y := c21.s2.s2.s1.s2.th.s2) (by kernel_rfl) ?_
        refine TS.region' (id := 4) (b := false) (ops := c21.s2.s2.s1.s2.th.s1.rops) (by kernel_rfl) rfl ?_
        refine TI.run 1 [2] [] (a2 := (st 19 [(2, .int .i64 15)])) (h2 := [.dead]) (by kernel_rfl) ?_
        refine TI.done (by kernel_rfl) ?_
        refine NX.sq ?_
        refine TS.ret' (by kernel_rfl) ?_
        refine NX.sqR ?_
        have hF := Option.some.inj hF
        subst hF
        exact ⟨.inr rfl, rfl, .int .i64 15, by kernel_rfl, WkV.flat0 (by kernel_rfl) (Nat.le_of_ble_eq_true rfl)⟩
      · replace hF := of_neg hF hc8
        refine TS.skip' (by kernel_rfl) ?_
        refine NX.sq ?_
        refine TS.seq' (x := c21.s2.s2.s2.s1) (y := c21.s2.s2.s2.s2) (by kernel_rfl) ?_
        refine TS.region' (id := 5) (b := false) (ops := c21.s2.s2.s2.s1.rops) (by kernel_rfl) rfl ?_
        refine TI.run 1 [2] [] (a2 := (st 19 [(2, .int .i64 0)])) (h2 := [.dead]) (by kernel_rfl) ?_
        refine TI.done (by kernel_rfl) ?_
        refine NX.sq ?_
        refine TS.ret' (by kernel_rfl) ?_
        have hF := Option.some.inj hF
        subst hF
        exact ⟨.inr rfl, rfl, .int .i64 0, by kernel_rfl, WkV.flat0 (by kernel_rfl) (Nat.le_of_ble_eq_true rfl)⟩
  cases r1 with
  | true =>
    replace hm9 := of_pos hm9 rfl
    have hX := of_do hm9
    clear hm9
    obtain ⟨r3, h4, hm9⟩ := hX
    cases r3 with
    | true =>
      replace hm9 := of_pos hm9 rfl
      have hm9 := Option.some.inj hm9
      subst hm9
      refine TS.region' (id := 1) (b := false) (ops := c21.s2.s1.s1.rops) (by kernel_rfl) rfl ?_
      refine TI.run 2 [1, 4] [0] (a2 := (st 19 [(1, .pointer (some ⟨0, 0, none⟩)), (4, .agg ⟨[.int .i64 p0, .int .i64 p1]⟩)])) (h2 := [.cells 30 [.int .i64 p0, .int .i64 p1, .int .i64 p2, .int .i64 p3]]) (by kernel_rfl) ?_
      refine TI.callM (g := 55) (args := [.agg ⟨[.int .i64 p0, .int .i64 p1]⟩, .int .i64 1000]) (v := .bool true) (new := []) (by kernel_rfl) (PureSim.any (C55 p0 p1 1000 true h2) (flatL (by kernel_rfl)) (by kernel_rfl) [.cells 30 [.int .i64 p0, .int .i64 p1, .int .i64 p2, .int .i64 p3]]) [1, 5] [0] (a2 := (st 19 [(1, .pointer (some ⟨0, 0, none⟩)), (5, .bool true)])) (h2 := [.cells 30 [.int .i64 p0, .int .i64 p1, .int .i64 p2, .int .i64 p3]]) (by kernel_rfl) ?_
      refine TI.run 4 [1, 7, 9] [0] (a2 := (st 19 [(1, .pointer (some ⟨0, 0, none⟩)), (7, .bool false), (9, .agg ⟨[.int .i64 p2, .int .i64 p3]⟩)])) (h2 := [.cells 30 [.int .i64 p0, .int .i64 p1, .int .i64 p2, .int .i64 p3]]) (by kernel_rfl) ?_
      refine TI.callM (g := 55) (args := [.agg ⟨[.int .i64 p2, .int .i64 p3]⟩, .int .i64 1000]) (v := .bool true) (new := []) (by kernel_rfl) (PureSim.any (C55 p2 p3 1000 true h4) (flatL (by kernel_rfl)) (by kernel_rfl) [.cells 30 [.int .i64 p0, .int .i64 p1, .int .i64 p2, .int .i64 p3]]) [1, 7, 10] [0] (a2 := (st 19 [(1, .pointer (some ⟨0, 0, none⟩)), (7, .bool false), (10, .bool true)])) (h2 := [.cells 30 [.int .i64 p0, .int .i64 p1, .int .i64 p2, .int .i64 p3]]) (by kernel_rfl) ?_
      refine TI.run 2 [1, 12] [0] (a2 := (st 19 [(1, .pointer (some ⟨0, 0, none⟩)), (12, .bool false)])) (h2 := [.cells 30 [.int .i64 p0, .int .i64 p1, .int .i64 p2, .int .i64 p3]]) (by kernel_rfl) ?_
      refine TI.done (by kernel_rfl) ?_
      exact hK
    | false =>
      replace hm9 := of_neg hm9 rfl
      have hm9 := Option.some.inj hm9
      subst hm9
      refine TS.region' (id := 1) (b := false) (ops := c21.s2.s1.s1.rops) (by kernel_rfl) rfl ?_
      refine TI.run 2 [1, 4] [0] (a2 := (st 19 [(1, .pointer (some ⟨0, 0, none⟩)), (4, .agg ⟨[.int .i64 p0, .int .i64 p1]⟩)])) (h2 := [.cells 30 [.int .i64 p0, .int .i64 p1, .int .i64 p2, .int .i64 p3]]) (by kernel_rfl) ?_
      refine TI.callM (g := 55) (args := [.agg ⟨[.int .i64 p0, .int .i64 p1]⟩, .int .i64 1000]) (v := .bool true) (new := []) (by kernel_rfl) (PureSim.any (C55 p0 p1 1000 true h2) (flatL (by kernel_rfl)) (by kernel_rfl) [.cells 30 [.int .i64 p0, .int .i64 p1, .int .i64 p2, .int .i64 p3]]) [1, 5] [0] (a2 := (st 19 [(1, .pointer (some ⟨0, 0, none⟩)), (5, .bool true)])) (h2 := [.cells 30 [.int .i64 p0, .int .i64 p1, .int .i64 p2, .int .i64 p3]]) (by kernel_rfl) ?_
      refine TI.run 4 [1, 7, 9] [0] (a2 := (st 19 [(1, .pointer (some ⟨0, 0, none⟩)), (7, .bool false), (9, .agg ⟨[.int .i64 p2, .int .i64 p3]⟩)])) (h2 := [.cells 30 [.int .i64 p0, .int .i64 p1, .int .i64 p2, .int .i64 p3]]) (by kernel_rfl) ?_
      refine TI.callM (g := 55) (args := [.agg ⟨[.int .i64 p2, .int .i64 p3]⟩, .int .i64 1000]) (v := .bool false) (new := []) (by kernel_rfl) (PureSim.any (C55 p2 p3 1000 false h4) (flatL (by kernel_rfl)) (by kernel_rfl) [.cells 30 [.int .i64 p0, .int .i64 p1, .int .i64 p2, .int .i64 p3]]) [1, 7, 10] [0] (a2 := (st 19 [(1, .pointer (some ⟨0, 0, none⟩)), (7, .bool false), (10, .bool false)])) (h2 := [.cells 30 [.int .i64 p0, .int .i64 p1, .int .i64 p2, .int .i64 p3]]) (by kernel_rfl) ?_
      refine TI.run 2 [1, 12] [0] (a2 := (st 19 [(1, .pointer (some ⟨0, 0, none⟩)), (12, .bool true)])) (h2 := [.cells 30 [.int .i64 p0, .int .i64 p1, .int .i64 p2, .int .i64 p3]]) (by kernel_rfl) ?_
      refine TI.done (by kernel_rfl) ?_
      exact hK
  | false =>
    replace hm9 := of_neg hm9 rfl
    have hm9 := Option.some.inj hm9
    subst hm9
    refine TS.region' (id := 1) (b := false) (ops := c21.s2.s1.s1.rops) (by kernel_rfl) rfl ?_
    refine TI.run 2 [1, 4] [0] (a2 := (st 19 [(1, .pointer (some ⟨0, 0, none⟩)), (4, .agg ⟨[.int .i64 p0, .int .i64 p1]⟩)])) (h2 := [.cells 30 [.int .i64 p0, .int .i64 p1, .int .i64 p2, .int .i64 p3]]) (by kernel_rfl) ?_
    refine TI.callM (g := 55) (args := [.agg ⟨[.int .i64 p0, .int .i64 p1]⟩, .int .i64 1000]) (v := .bool false) (new := []) (by kernel_rfl) (PureSim.any (C55 p0 p1 1000 false h2) (flatL (by kernel_rfl)) (by kernel_rfl) [.cells 30 [.int .i64 p0, .int .i64 p1, .int .i64 p2, .int .i64 p3]]) [1, 5] [0] (a2 := (st 19 [(1, .pointer (some ⟨0, 0, none⟩)), (5, .bool false)])) (h2 := [.cells 30 [.int .i64 p0, .int .i64 p1, .int .i64 p2, .int .i64 p3]]) (by kernel_rfl) ?_
    refine TI.run 7 [1, 12] [0] (a2 := (st 19 [(1, .pointer (some ⟨0, 0, none⟩)), (12, .bool true)])) (h2 := [.cells 30 [.int .i64 p0, .int .i64 p1, .int .i64 p2, .int .i64 p3]]) (by kernel_rfl) ?_
    refine TI.done (by kernel_rfl) ?_
    exact hK
theorem C21 (p0 : Int) (p1 : Int) (p2 : Int) (p3 : Int) (r : Int) (hF : F21 p0 p1 p2 p3 = some r) : PureSim Try.prog 21 [.agg ⟨[.int .i64 p0, .int .i64 p1, .int .i64 p2, .int .i64 p3]⟩] [] (V21 0 r) (N21 0 r) :=
  PureSim.of_Fin Try.func21 (c := c21) (by kernel_rfl) (by kernel_rfl) 0 rfl [0] [] (by kernel_rfl) (B21 p0 p1 p2 p3 r hF)

-- agonic/agonicref06.pull
noncomputable def c57 : Code := Try.f57.code
def F57 (p0 : Int) (p1 : Int) (p2 : Int) (p3 : Int) (p4 : Int) (p5 : Int) : Option (Int × Int) :=
  some (w64 ((w64 (p4 * p0)) + (w64 (p5 * p2))), w64 ((w64 (p4 * p1)) + (w64 (p5 * p3))))
def V57 (b : Nat) (r : (Int × Int)) : Value := .agg ⟨[.int .i64 r.1, .int .i64 r.2]⟩
def N57 (b : Nat) (r : (Int × Int)) : List Blk := []
theorem B57 (p0 : Int) (p1 : Int) (p2 : Int) (p3 : Int) (p4 : Int) (p5 : Int) (r : (Int × Int)) (hF : F57 p0 p1 p2 p3 p4 p5 = some r) : TS Try.prog 0 0 c57 (st 32 [(0, .agg ⟨[.int .i64 p0, .int .i64 p1, .int .i64 p2, .int .i64 p3]⟩), (1, .agg ⟨[.int .i64 p4, .int .i64 p5]⟩)]) [] (NX Try.prog 0 0 [] (FinP Try.prog Try.f57 0 (V57 0 r) (N57 0 r))) := by
  unfold F57 at hF
  refine TS.seq' (x := c57.s1) (y := c57.s2) (by kernel_rfl) ?_
  refine TS.region' (id := 0) (b := false) (ops := c57.s1.rops) (by kernel_rfl) rfl ?_
  refine TI.run 3 [2, 3, 4] [0, 1, 2] (a2 := (st 32 [(2, .pointer (some ⟨0, 0, none⟩)), (3, .pointer (some ⟨1, 0, none⟩)), (4, .pointer (some ⟨2, 0, none⟩))])) (h2 := [.cells 30 [.int .i64 p0, .int .i64 p1, .int .i64 p2, .int .i64 p3], .cells 41 [.int .i64 p4, .int .i64 p5], .cells 28 [.int .i64 0, .int .i64 0]]) (by kernel_rfl) ?_
  refine TI.done (by kernel_rfl) ?_
  refine NX.sq ?_
  refine TS.seq' (x := c57.s2.s1) (y := c57.s2.s2) (by kernel_rfl) ?_
  refine TS.region' (id := 1) (b := false) (ops := c57.s2.s1.rops) (by kernel_rfl) rfl ?_
  refine TI.run 28 [4] [2] (a2 := (st 32 [(4, .pointer (some ⟨2, 0, none⟩))])) (h2 := [.dead, .dead, .cells 28 [.int .i64 (w64 ((w64 (p4 * p0)) + (w64 (p5 * p2)))), .int .i64 (w64 ((w64 (p4 * p1)) + (w64 (p5 * p3))))]]) (by kernel_rfl) ?_
  refine TI.done (by kernel_rfl) ?_
  refine NX.sq ?_
  refine TS.ret' (by kernel_rfl) ?_
  have hF := Option.some.inj hF
  subst hF
  exact ⟨.inr rfl, rfl, .agg ⟨[.int .i64 (w64 ((w64 (p4 * p0)) + (w64 (p5 * p2)))), .int .i64 (w64 ((w64 (p4 * p1)) + (w64 (p5 * p3))))]⟩, by kernel_rfl, WkV.flat0 (by kernel_rfl) (Nat.le_of_ble_eq_true rfl)⟩
theorem C57 (p0 : Int) (p1 : Int) (p2 : Int) (p3 : Int) (p4 : Int) (p5 : Int) (r : (Int × Int)) (hF : F57 p0 p1 p2 p3 p4 p5 = some r) : PureSim Try.prog 57 [.agg ⟨[.int .i64 p0, .int .i64 p1, .int .i64 p2, .int .i64 p3]⟩, .agg ⟨[.int .i64 p4, .int .i64 p5]⟩] [] (V57 0 r) (N57 0 r) :=
  PureSim.of_Fin Try.func57 (c := c57) (by kernel_rfl) (by kernel_rfl) 0 rfl [0, 1] [] (by kernel_rfl) (B57 p0 p1 p2 p3 p4 p5 r hF)

-- agonic/agonicref06.product
noncomputable def c64 : Code := Try.f64.code
def F64 (p0 : Int) (p1 : Int) (p2 : Int) (p3 : Int) : Option Int :=
  some (w64 ((w64 (p0 * p2)) + (w64 (p1 * p3))))
def V64 (b : Nat) (r : Int) : Value := .int .i64 r
def N64 (b : Nat) (r : Int) : List Blk := []
theorem B64 (p0 : Int) (p1 : Int) (p2 : Int) (p3 : Int) (r : Int) (hF : F64 p0 p1 p2 p3 = some r) : TS Try.prog 0 0 c64 (st 16 [(0, .agg ⟨[.int .i64 p0, .int .i64 p1]⟩), (1, .agg ⟨[.int .i64 p2, .int .i64 p3]⟩)]) [] (NX Try.prog 0 0 [] (FinP Try.prog Try.f64 0 (V64 0 r) (N64 0 r))) := by
  unfold F64 at hF
  refine TS.seq' (x := c64.s1) (y := c64.s2) (by kernel_rfl) ?_
  refine TS.region' (id := 0) (b := false) (ops := c64.s1.rops) (by kernel_rfl) rfl ?_
  refine TI.run 3 [2, 3] [0, 1] (a2 := (st 16 [(2, .pointer (some ⟨0, 0, none⟩)), (3, .pointer (some ⟨1, 0, none⟩))])) (h2 := [.cells 28 [.int .i64 p0, .int .i64 p1], .cells 28 [.int .i64 p2, .int .i64 p3]]) (by kernel_rfl) ?_
  refine TI.done (by kernel_rfl) ?_
  refine NX.sq ?_
  refine TS.seq' (x := c64.s2.s1) (y := c64.s2.s2) (by kernel_rfl) ?_
  refine TS.region' (id := 1) (b := false) (ops := c64.s2.s1.rops) (by kernel_rfl) rfl ?_
  refine TI.run 12 [4] [] (a2 := (st 16 [(4, .int .i64 (w64 ((w64 (p0 * p2)) + (w64 (p1 * p3)))))])) (h2 := [.dead, .dead]) (by kernel_rfl) ?_
  refine TI.done (by kernel_rfl) ?_
  refine NX.sq ?_
  refine TS.ret' (by kernel_rfl) ?_
  have hF := Option.some.inj hF
  subst hF
  exact ⟨.inr rfl, rfl, .int .i64 (w64 ((w64 (p0 * p2)) + (w64 (p1 * p3)))), by kernel_rfl, WkV.flat0 (by kernel_rfl) (Nat.le_of_ble_eq_true rfl)⟩
theorem C64 (p0 : Int) (p1 : Int) (p2 : Int) (p3 : Int) (r : Int) (hF : F64 p0 p1 p2 p3 = some r) : PureSim Try.prog 64 [.agg ⟨[.int .i64 p0, .int .i64 p1]⟩, .agg ⟨[.int .i64 p2, .int .i64 p3]⟩] [] (V64 0 r) (N64 0 r) :=
  PureSim.of_Fin Try.func64 (c := c64) (by kernel_rfl) (by kernel_rfl) 0 rfl [0, 1] [] (by kernel_rfl) (B64 p0 p1 p2 p3 r hF)

-- agonic/agonicref06.reduced
noncomputable def c51 : Code := Try.f51.code
def F51 (p0 : Int) (p1 : Int) (p2 : Int) (p3 : Int) : Option Bool :=
  F64 p0 p1 p2 p3 >>= fun r1 =>
  F64 p0 p1 p0 p1 >>= fun r3 =>
  F64 p2 p3 p2 p3 >>= fun r5 =>
  (
    if decide (r3 ≤ r5) then
      F64 p0 p1 p0 p1 >>= fun r8 =>
      some (decide ((w64 (2 * (mx r1 (w64 (0 - r1))))) ≤ r8))
    else
      some (false)
  : Option Bool) >>= fun m10 =>
  some m10
def V51 (b : Nat) (r : Bool) : Value := .bool r
def N51 (b : Nat) (r : Bool) : List Blk := []
theorem B51 (p0 : Int) (p1 : Int) (p2 : Int) (p3 : Int) (r : Bool) (hF : F51 p0 p1 p2 p3 = some r) : TS Try.prog 0 0 c51 (st 33 [(0, .agg ⟨[.int .i64 p0, .int .i64 p1, .int .i64 p2, .int .i64 p3]⟩)]) [] (NX Try.prog 0 0 [] (FinP Try.prog Try.f51 0 (V51 0 r) (N51 0 r))) := by
  unfold F51 at hF
  refine TS.seq' (x := c51.s1) (y := c51.s2) (by kernel_rfl) ?_
  refine TS.region' (id := 0) (b := false) (ops := c51.s1.rops) (by kernel_rfl) rfl ?_
  refine TI.run 2 [1] [0] (a2 := (st 33 [(1, .pointer (some ⟨0, 0, none⟩))])) (h2 := [.cells 30 [.int .i64 p0, .int .i64 p1, .int .i64 p2, .int .i64 p3]]) (by kernel_rfl) ?_
  refine TI.done (by kernel_rfl) ?_
  refine NX.sq ?_
  refine TS.seq' (x := c51.s2.s1) (y := c51.s2.s2) (by kernel_rfl) ?_
  have hX := of_do hF
  clear hF
  obtain ⟨r1, h2, hF⟩ := hX
  refine TS.region' (id := 1) (b := false) (ops := c51.s2.s1.rops) (by kernel_rfl) rfl ?_
  refine TI.run 4 [1, 5, 7] [0] (a2 := (st 33 [(1, .pointer (some ⟨0, 0, none⟩)), (5, .agg ⟨[.int .i64 p0, .int .i64 p1]⟩), (7, .agg ⟨[.int .i64 p2, .int .i64 p3]⟩)])) (h2 := [.cells 30 [.int .i64 p0, .int .i64 p1, .int .i64 p2, .int .i64 p3]]) (by kernel_rfl) ?_
  refine TI.callM (g := 64) (args := [.agg ⟨[.int .i64 p0, .int .i64 p1]⟩, .agg ⟨[.int .i64 p2, .int .i64 p3]⟩]) (v := .int .i64 r1) (new := []) (by kernel_rfl) (PureSim.any (C64 p0 p1 p2 p3 r1 h2) (flatL (by kernel_rfl)) (by kernel_rfl) [.cells 30 [.int .i64 p0, .int .i64 p1, .int .i64 p2, .int .i64 p3]]) [1, 8] [0] (a2 := (st 33 [(1, .pointer (some ⟨0, 0, none⟩)), (8, .int .i64 r1)])) (h2 := [.cells 30 [.int .i64 p0, .int .i64 p1, .int .i64 p2, .int .i64 p3]]) (by kernel_rfl) ?_
  refine TI.run 1 [1, 3] [0] (a2 := (st 33 [(1, .pointer (some ⟨0, 0, none⟩)), (3, .int .i64 r1)])) (h2 := [.cells 30 [.int .i64 p0, .int .i64 p1, .int .i64 p2, .int .i64 p3]]) (by kernel_rfl) ?_
  refine TI.done (by kernel_rfl) ?_
  refine NX.sq ?_
  refine TS.seq' (x := c51.s2.s2.s1) (y := c51.s2.s2.s2) (by kernel_rfl) ?_
  have hX := of_do hF
  clear hF
  obtain ⟨r3, h4, hF⟩ := hX
  have hX := of_do hF
  clear hF
  obtain ⟨r5, h6, hF⟩ := hX
  have hX := of_do hF
  clear hF
  obtain ⟨m10, hm11, hF⟩ := hX
  have hK : NX Try.prog 0 0 [.sq c51.s2.s2.s2] (FinP Try.prog Try.f51 0 (V51 0 r) (N51 0 r)) .normal (st 33 [(2, .bool m10)]) [.dead] := by
    refine NX.sq ?_
    refine TS.ret' (by kernel_rfl) ?_
    have hF := Option.some.inj hF
    subst hF
    exact ⟨.inr rfl, rfl, .bool m10, by kernel_rfl, WkV.flat0 (by kernel_rfl) (Nat.le_of_ble_eq_true rfl)⟩
  rcases Bool.eq_false_or_eq_true (decide (r3 ≤ r5)) with hc7 | hc7
  · replace hm11 := of_pos hm11 hc7
    have hX := of_do hm11
    clear hm11
    obtain ⟨r8, h9, hm11⟩ := hX
    have hm11 := Option.some.inj hm11
    subst hm11
    have hT : ∀ e ∈ ([⟨64, [.agg ⟨[.int .i64 p0, .int .i64 p1]⟩, .agg ⟨[.int .i64 p0, .int .i64 p1]⟩], [.cells 30 [.int .i64 p0, .int .i64 p1, .int .i64 p2, .int .i64 p3]], .int .i64 r3, []⟩, ⟨64, [.agg ⟨[.int .i64 p2, .int .i64 p3]⟩, .agg ⟨[.int .i64 p2, .int .i64 p3]⟩], [.cells 30 [.int .i64 p0, .int .i64 p1, .int .i64 p2, .int .i64 p3]], .int .i64 r5, []⟩, ⟨64, [.agg ⟨[.int .i64 p0, .int .i64 p1]⟩, .agg ⟨[.int .i64 p0, .int .i64 p1]⟩], [.cells 30 [.int .i64 p0, .int .i64 p1, .int .i64 p2, .int .i64 p3]], .int .i64 r8, []⟩] : List Entry), PureSim Try.prog e.g e.args e.h e.v e.new := by
      intro e he
      simp only [List.mem_cons, List.not_mem_nil, or_false] at he
      rcases he with rfl | rfl | rfl
      · exact (PureSim.any (C64 p0 p1 p0 p1 r3 h4) (flatL (by kernel_rfl)) (by kernel_rfl) [.cells 30 [.int .i64 p0, .int .i64 p1, .int .i64 p2, .int .i64 p3]])
      · exact (PureSim.any (C64 p2 p3 p2 p3 r5 h6) (flatL (by kernel_rfl)) (by kernel_rfl) [.cells 30 [.int .i64 p0, .int .i64 p1, .int .i64 p2, .int .i64 p3]])
      · exact (PureSim.any (C64 p0 p1 p0 p1 r8 h9) (flatL (by kernel_rfl)) (by kernel_rfl) [.cells 30 [.int .i64 p0, .int .i64 p1, .int .i64 p2, .int .i64 p3]])
    refine TS.draw' (id := 2) (b := true) (ops := c51.s2.s2.s1.rops) (fin := ({ act := (st 33 [(1, .pointer (some ⟨0, 0, none⟩)), (3, .int .i64 r1), (9, .pointer (some ⟨0, 0, none⟩)), (10, .agg ⟨[.int .i64 p0, .int .i64 p1]⟩), (11, .pointer (some ⟨0, 0, none⟩)), (12, .agg ⟨[.int .i64 p0, .int .i64 p1]⟩), (13, .int .i64 r3), (14, .pointer (some ⟨0, 2, none⟩)), (15, .agg ⟨[.int .i64 p2, .int .i64 p3]⟩), (16, .pointer (some ⟨0, 2, none⟩)), (17, .agg ⟨[.int .i64 p2, .int .i64 p3]⟩), (18, .int .i64 r5), (19, .bool true), (20, .bool true), (21, .int .i64 r1), (22, .int .i64 r1), (23, .int .i64 (w64 (0 - r1))), (24, .int .i64 (mx r1 (w64 (0 - r1)))), (25, .int .i64 (w64 (2 * (mx r1 (w64 (0 - r1)))))), (26, .pointer (some ⟨0, 0, none⟩)), (27, .agg ⟨[.int .i64 p0, .int .i64 p1]⟩), (28, .pointer (some ⟨0, 0, none⟩)), (29, .agg ⟨[.int .i64 p0, .int .i64 p1]⟩), (30, .int .i64 r8)]), heap := [.cells 30 [.int .i64 p0, .int .i64 p1, .int .i64 p2, .int .i64 p3]], own := [], upds := [] } : QSt)) (fin2 := ({ act := (st 33 [(1, .pointer (some ⟨0, 0, none⟩)), (3, .int .i64 r1), (9, .pointer (some ⟨0, 0, none⟩)), (10, .agg ⟨[.int .i64 p0, .int .i64 p1]⟩), (11, .pointer (some ⟨0, 0, none⟩)), (12, .agg ⟨[.int .i64 p0, .int .i64 p1]⟩), (13, .int .i64 r3), (14, .pointer (some ⟨0, 2, none⟩)), (15, .agg ⟨[.int .i64 p2, .int .i64 p3]⟩), (16, .pointer (some ⟨0, 2, none⟩)), (17, .agg ⟨[.int .i64 p2, .int .i64 p3]⟩), (18, .int .i64 r5), (19, .bool true), (20, .bool true), (21, .int .i64 r1), (22, .int .i64 r1), (23, .int .i64 (w64 (0 - r1))), (24, .int .i64 (mx r1 (w64 (0 - r1)))), (25, .int .i64 (w64 (2 * (mx r1 (w64 (0 - r1)))))), (26, .pointer (some ⟨0, 0, none⟩)), (27, .agg ⟨[.int .i64 p0, .int .i64 p1]⟩), (28, .pointer (some ⟨0, 0, none⟩)), (29, .agg ⟨[.int .i64 p0, .int .i64 p1]⟩), (30, .int .i64 r8)]), heap := [.cells 30 [.int .i64 p0, .int .i64 p1, .int .i64 p2, .int .i64 p3]], own := [], upds := [] } : QSt)) (a1 := (st 33 [(1, .pointer (some ⟨0, 0, none⟩)), (2, .bool (decide ((w64 (2 * (mx r1 (w64 (0 - r1))))) ≤ r8))), (3, .int .i64 r1), (9, .pointer (some ⟨0, 0, none⟩)), (10, .agg ⟨[.int .i64 p0, .int .i64 p1]⟩), (11, .pointer (some ⟨0, 0, none⟩)), (12, .agg ⟨[.int .i64 p0, .int .i64 p1]⟩), (13, .int .i64 r3), (14, .pointer (some ⟨0, 2, none⟩)), (15, .agg ⟨[.int .i64 p2, .int .i64 p3]⟩), (16, .pointer (some ⟨0, 2, none⟩)), (17, .agg ⟨[.int .i64 p2, .int .i64 p3]⟩), (18, .int .i64 r5), (19, .bool true), (20, .bool true), (21, .int .i64 r1), (22, .int .i64 r1), (23, .int .i64 (w64 (0 - r1))), (24, .int .i64 (mx r1 (w64 (0 - r1)))), (25, .int .i64 (w64 (2 * (mx r1 (w64 (0 - r1)))))), (26, .pointer (some ⟨0, 0, none⟩)), (27, .agg ⟨[.int .i64 p0, .int .i64 p1]⟩), (28, .pointer (some ⟨0, 0, none⟩)), (29, .agg ⟨[.int .i64 p0, .int .i64 p1]⟩), (30, .int .i64 r8), (31, .bool (decide ((w64 (2 * (mx r1 (w64 (0 - r1))))) ≤ r8))), (32, .bool (decide ((w64 (2 * (mx r1 (w64 (0 - r1))))) ≤ r8)))])) (h1 := [.cells 30 [.int .i64 p0, .int .i64 p1, .int .i64 p2, .int .i64 p3]]) (a2 := (st 33 [(2, .bool (decide ((w64 (2 * (mx r1 (w64 (0 - r1))))) ≤ r8)))])) (h2 := [.dead]) [⟨64, [.agg ⟨[.int .i64 p0, .int .i64 p1]⟩, .agg ⟨[.int .i64 p0, .int .i64 p1]⟩], [.cells 30 [.int .i64 p0, .int .i64 p1, .int .i64 p2, .int .i64 p3]], .int .i64 r3, []⟩, ⟨64, [.agg ⟨[.int .i64 p2, .int .i64 p3]⟩, .agg ⟨[.int .i64 p2, .int .i64 p3]⟩], [.cells 30 [.int .i64 p0, .int .i64 p1, .int .i64 p2, .int .i64 p3]], .int .i64 r5, []⟩, ⟨64, [.agg ⟨[.int .i64 p0, .int .i64 p1]⟩, .agg ⟨[.int .i64 p0, .int .i64 p1]⟩], [.cells 30 [.int .i64 p0, .int .i64 p1, .int .i64 p2, .int .i64 p3]], .int .i64 r8, []⟩] hT mixed (by kernel_rfl) rfl 22 (by kernel_rfl) [] ?_ rfl (.inl ⟨rfl, rfl⟩) ?_ [2] [] (by kernel_rfl) ?_
    · refine QI.run (s1 := ({ act := (st 33 [(1, .pointer (some ⟨0, 0, none⟩)), (3, .int .i64 r1), (9, .pointer (some ⟨0, 0, none⟩)), (10, .agg ⟨[.int .i64 p0, .int .i64 p1]⟩), (11, .pointer (some ⟨0, 0, none⟩)), (12, .agg ⟨[.int .i64 p0, .int .i64 p1]⟩)]), heap := [.cells 30 [.int .i64 p0, .int .i64 p1, .int .i64 p2, .int .i64 p3]], own := [], upds := [] } : QSt)) 4 (by kernel_rfl) (by kernel_rfl) ?_
      refine QI.op (q := { val := .int .i64 r3, new := [] }) (s1 := ({ act := (st 33 [(1, .pointer (some ⟨0, 0, none⟩)), (3, .int .i64 r1), (9, .pointer (some ⟨0, 0, none⟩)), (10, .agg ⟨[.int .i64 p0, .int .i64 p1]⟩), (11, .pointer (some ⟨0, 0, none⟩)), (12, .agg ⟨[.int .i64 p0, .int .i64 p1]⟩), (13, .int .i64 r3)]), heap := [.cells 30 [.int .i64 p0, .int .i64 p1, .int .i64 p2, .int .i64 p3]], own := [], upds := [] } : QSt)) (by decide) (qOf_call (g := 64) (args := [.agg ⟨[.int .i64 p0, .int .i64 p1]⟩, .agg ⟨[.int .i64 p0, .int .i64 p1]⟩]) (by kernel_rfl) lookC_hit) (by kernel_rfl) ?_
      refine QI.run (s1 := ({ act := (st 33 [(1, .pointer (some ⟨0, 0, none⟩)), (3, .int .i64 r1), (9, .pointer (some ⟨0, 0, none⟩)), (10, .agg ⟨[.int .i64 p0, .int .i64 p1]⟩), (11, .pointer (some ⟨0, 0, none⟩)), (12, .agg ⟨[.int .i64 p0, .int .i64 p1]⟩), (13, .int .i64 r3), (14, .pointer (some ⟨0, 2, none⟩)), (15, .agg ⟨[.int .i64 p2, .int .i64 p3]⟩), (16, .pointer (some ⟨0, 2, none⟩)), (17, .agg ⟨[.int .i64 p2, .int .i64 p3]⟩)]), heap := [.cells 30 [.int .i64 p0, .int .i64 p1, .int .i64 p2, .int .i64 p3]], own := [], upds := [] } : QSt)) 4 (by kernel_rfl) (by kernel_rfl) ?_
      refine QI.op (q := { val := .int .i64 r5, new := [] }) (s1 := ({ act := (st 33 [(1, .pointer (some ⟨0, 0, none⟩)), (3, .int .i64 r1), (9, .pointer (some ⟨0, 0, none⟩)), (10, .agg ⟨[.int .i64 p0, .int .i64 p1]⟩), (11, .pointer (some ⟨0, 0, none⟩)), (12, .agg ⟨[.int .i64 p0, .int .i64 p1]⟩), (13, .int .i64 r3), (14, .pointer (some ⟨0, 2, none⟩)), (15, .agg ⟨[.int .i64 p2, .int .i64 p3]⟩), (16, .pointer (some ⟨0, 2, none⟩)), (17, .agg ⟨[.int .i64 p2, .int .i64 p3]⟩), (18, .int .i64 r5)]), heap := [.cells 30 [.int .i64 p0, .int .i64 p1, .int .i64 p2, .int .i64 p3]], own := [], upds := [] } : QSt)) (by decide) (qOf_call (g := 64) (args := [.agg ⟨[.int .i64 p2, .int .i64 p3]⟩, .agg ⟨[.int .i64 p2, .int .i64 p3]⟩]) (by kernel_rfl) (lookC_skip (by intro _ ha _; have hq := h4; have hi := h6; clear hF; first | (exfalso; simp at ha; done) | ((try simp at ha); have hr := Option.some.inj (hq.symm.trans (Eq.trans (by first | rfl | (congr 1 <;> first | rfl | omega | simp_all)) hi)); subst hr; rfl)) lookC_hit)) (by kernel_rfl) ?_
      refine QI.op (q := { val := .bool true }) (s1 := ({ act := (st 33 [(1, .pointer (some ⟨0, 0, none⟩)), (3, .int .i64 r1), (9, .pointer (some ⟨0, 0, none⟩)), (10, .agg ⟨[.int .i64 p0, .int .i64 p1]⟩), (11, .pointer (some ⟨0, 0, none⟩)), (12, .agg ⟨[.int .i64 p0, .int .i64 p1]⟩), (13, .int .i64 r3), (14, .pointer (some ⟨0, 2, none⟩)), (15, .agg ⟨[.int .i64 p2, .int .i64 p3]⟩), (16, .pointer (some ⟨0, 2, none⟩)), (17, .agg ⟨[.int .i64 p2, .int .i64 p3]⟩), (18, .int .i64 r5), (19, .bool true)]), heap := [.cells 30 [.int .i64 p0, .int .i64 p1, .int .i64 p2, .int .i64 p3]], own := [], upds := [] } : QSt)) (by decide) (q_conv (e := decide (r3 ≤ r5)) (b := true) (by kernel_rfl) hc7) (by kernel_rfl) ?_
      refine QI.run (s1 := ({ act := (st 33 [(1, .pointer (some ⟨0, 0, none⟩)), (3, .int .i64 r1), (9, .pointer (some ⟨0, 0, none⟩)), (10, .agg ⟨[.int .i64 p0, .int .i64 p1]⟩), (11, .pointer (some ⟨0, 0, none⟩)), (12, .agg ⟨[.int .i64 p0, .int .i64 p1]⟩), (13, .int .i64 r3), (14, .pointer (some ⟨0, 2, none⟩)), (15, .agg ⟨[.int .i64 p2, .int .i64 p3]⟩), (16, .pointer (some ⟨0, 2, none⟩)), (17, .agg ⟨[.int .i64 p2, .int .i64 p3]⟩), (18, .int .i64 r5), (19, .bool true), (20, .bool true), (21, .int .i64 r1), (22, .int .i64 r1), (23, .int .i64 (w64 (0 - r1))), (24, .int .i64 (mx r1 (w64 (0 - r1)))), (25, .int .i64 (w64 (2 * (mx r1 (w64 (0 - r1)))))), (26, .pointer (some ⟨0, 0, none⟩)), (27, .agg ⟨[.int .i64 p0, .int .i64 p1]⟩), (28, .pointer (some ⟨0, 0, none⟩)), (29, .agg ⟨[.int .i64 p0, .int .i64 p1]⟩)]), heap := [.cells 30 [.int .i64 p0, .int .i64 p1, .int .i64 p2, .int .i64 p3]], own := [], upds := [] } : QSt)) 10 (by kernel_rfl) (by kernel_rfl) ?_
      refine QI.op (q := { val := .int .i64 r8, new := [] }) (s1 := ({ act := (st 33 [(1, .pointer (some ⟨0, 0, none⟩)), (3, .int .i64 r1), (9, .pointer (some ⟨0, 0, none⟩)), (10, .agg ⟨[.int .i64 p0, .int .i64 p1]⟩), (11, .pointer (some ⟨0, 0, none⟩)), (12, .agg ⟨[.int .i64 p0, .int .i64 p1]⟩), (13, .int .i64 r3), (14, .pointer (some ⟨0, 2, none⟩)), (15, .agg ⟨[.int .i64 p2, .int .i64 p3]⟩), (16, .pointer (some ⟨0, 2, none⟩)), (17, .agg ⟨[.int .i64 p2, .int .i64 p3]⟩), (18, .int .i64 r5), (19, .bool true), (20, .bool true), (21, .int .i64 r1), (22, .int .i64 r1), (23, .int .i64 (w64 (0 - r1))), (24, .int .i64 (mx r1 (w64 (0 - r1)))), (25, .int .i64 (w64 (2 * (mx r1 (w64 (0 - r1)))))), (26, .pointer (some ⟨0, 0, none⟩)), (27, .agg ⟨[.int .i64 p0, .int .i64 p1]⟩), (28, .pointer (some ⟨0, 0, none⟩)), (29, .agg ⟨[.int .i64 p0, .int .i64 p1]⟩), (30, .int .i64 r8)]), heap := [.cells 30 [.int .i64 p0, .int .i64 p1, .int .i64 p2, .int .i64 p3]], own := [], upds := [] } : QSt)) (by decide) (qOf_call (g := 64) (args := [.agg ⟨[.int .i64 p0, .int .i64 p1]⟩, .agg ⟨[.int .i64 p0, .int .i64 p1]⟩]) (by kernel_rfl) (lookC_skip (by intro _ ha _; have hq := h4; have hi := h9; clear hF; first | (exfalso; simp at ha; done) | ((try simp at ha); have hr := Option.some.inj (hq.symm.trans (Eq.trans (by first | rfl | (congr 1 <;> first | rfl | omega | simp_all)) hi)); subst hr; rfl)) (lookC_skip (by intro _ ha _; have hq := h6; have hi := h9; clear hF; first | (exfalso; simp at ha; done) | ((try simp at ha); have hr := Option.some.inj (hq.symm.trans (Eq.trans (by first | rfl | (congr 1 <;> first | rfl | omega | simp_all)) hi)); subst hr; rfl)) lookC_hit))) (by kernel_rfl) ?_
      exact QI.done (by kernel_rfl)
    · refine SI.run (a2 := (st 33 [(1, .pointer (some ⟨0, 0, none⟩)), (2, .bool (decide ((w64 (2 * (mx r1 (w64 (0 - r1))))) ≤ r8))), (3, .int .i64 r1), (9, .pointer (some ⟨0, 0, none⟩)), (10, .agg ⟨[.int .i64 p0, .int .i64 p1]⟩), (11, .pointer (some ⟨0, 0, none⟩)), (12, .agg ⟨[.int .i64 p0, .int .i64 p1]⟩), (13, .int .i64 r3), (14, .pointer (some ⟨0, 2, none⟩)), (15, .agg ⟨[.int .i64 p2, .int .i64 p3]⟩), (16, .pointer (some ⟨0, 2, none⟩)), (17, .agg ⟨[.int .i64 p2, .int .i64 p3]⟩), (18, .int .i64 r5), (19, .bool true), (20, .bool true), (21, .int .i64 r1), (22, .int .i64 r1), (23, .int .i64 (w64 (0 - r1))), (24, .int .i64 (mx r1 (w64 (0 - r1)))), (25, .int .i64 (w64 (2 * (mx r1 (w64 (0 - r1)))))), (26, .pointer (some ⟨0, 0, none⟩)), (27, .agg ⟨[.int .i64 p0, .int .i64 p1]⟩), (28, .pointer (some ⟨0, 0, none⟩)), (29, .agg ⟨[.int .i64 p0, .int .i64 p1]⟩), (30, .int .i64 r8), (31, .bool (decide ((w64 (2 * (mx r1 (w64 (0 - r1))))) ≤ r8))), (32, .bool (decide ((w64 (2 * (mx r1 (w64 (0 - r1))))) ≤ r8)))])) (h2 := [.cells 30 [.int .i64 p0, .int .i64 p1, .int .i64 p2, .int .i64 p3]]) 3 (by kernel_rfl) ?_
      exact SI.done (by kernel_rfl)
    exact hK
  · replace hm11 := of_neg hm11 hc7
    have hm11 := Option.some.inj hm11
    subst hm11
    have hT : ∀ e ∈ ([⟨64, [.agg ⟨[.int .i64 p0, .int .i64 p1]⟩, .agg ⟨[.int .i64 p0, .int .i64 p1]⟩], [.cells 30 [.int .i64 p0, .int .i64 p1, .int .i64 p2, .int .i64 p3]], .int .i64 r3, []⟩, ⟨64, [.agg ⟨[.int .i64 p2, .int .i64 p3]⟩, .agg ⟨[.int .i64 p2, .int .i64 p3]⟩], [.cells 30 [.int .i64 p0, .int .i64 p1, .int .i64 p2, .int .i64 p3]], .int .i64 r5, []⟩] : List Entry), PureSim Try.prog e.g e.args e.h e.v e.new := by
      intro e he
      simp only [List.mem_cons, List.not_mem_nil, or_false] at he
      rcases he with rfl | rfl
      · exact (PureSim.any (C64 p0 p1 p0 p1 r3 h4) (flatL (by kernel_rfl)) (by kernel_rfl) [.cells 30 [.int .i64 p0, .int .i64 p1, .int .i64 p2, .int .i64 p3]])
      · exact (PureSim.any (C64 p2 p3 p2 p3 r5 h6) (flatL (by kernel_rfl)) (by kernel_rfl) [.cells 30 [.int .i64 p0, .int .i64 p1, .int .i64 p2, .int .i64 p3]])
    refine TS.draw' (id := 2) (b := true) (ops := c51.s2.s2.s1.rops) (fin := ({ act := (st 33 [(1, .pointer (some ⟨0, 0, none⟩)), (3, .int .i64 r1), (9, .pointer (some ⟨0, 0, none⟩)), (10, .agg ⟨[.int .i64 p0, .int .i64 p1]⟩), (11, .pointer (some ⟨0, 0, none⟩)), (12, .agg ⟨[.int .i64 p0, .int .i64 p1]⟩), (13, .int .i64 r3), (14, .pointer (some ⟨0, 2, none⟩)), (15, .agg ⟨[.int .i64 p2, .int .i64 p3]⟩), (16, .pointer (some ⟨0, 2, none⟩)), (17, .agg ⟨[.int .i64 p2, .int .i64 p3]⟩), (18, .int .i64 r5), (19, .bool false), (20, .bool false), (21, undef), (22, undef), (23, undef), (24, undef), (25, undef), (26, undef), (27, undef), (28, undef), (29, undef), (30, undef)]), heap := [.cells 30 [.int .i64 p0, .int .i64 p1, .int .i64 p2, .int .i64 p3]], own := [], upds := [] } : QSt)) (fin2 := ({ act := (st 33 [(1, .pointer (some ⟨0, 0, none⟩)), (3, .int .i64 r1), (9, .pointer (some ⟨0, 0, none⟩)), (10, .agg ⟨[.int .i64 p0, .int .i64 p1]⟩), (11, .pointer (some ⟨0, 0, none⟩)), (12, .agg ⟨[.int .i64 p0, .int .i64 p1]⟩), (13, .int .i64 r3), (14, .pointer (some ⟨0, 2, none⟩)), (15, .agg ⟨[.int .i64 p2, .int .i64 p3]⟩), (16, .pointer (some ⟨0, 2, none⟩)), (17, .agg ⟨[.int .i64 p2, .int .i64 p3]⟩), (18, .int .i64 r5), (19, .bool false), (20, .bool false), (21, undef), (22, undef), (23, undef), (24, undef), (25, undef), (26, undef), (27, undef), (28, undef), (29, undef), (30, undef)]), heap := [.cells 30 [.int .i64 p0, .int .i64 p1, .int .i64 p2, .int .i64 p3]], own := [], upds := [] } : QSt)) (a1 := (st 33 [(1, .pointer (some ⟨0, 0, none⟩)), (2, .bool false), (3, .int .i64 r1), (9, .pointer (some ⟨0, 0, none⟩)), (10, .agg ⟨[.int .i64 p0, .int .i64 p1]⟩), (11, .pointer (some ⟨0, 0, none⟩)), (12, .agg ⟨[.int .i64 p0, .int .i64 p1]⟩), (13, .int .i64 r3), (14, .pointer (some ⟨0, 2, none⟩)), (15, .agg ⟨[.int .i64 p2, .int .i64 p3]⟩), (16, .pointer (some ⟨0, 2, none⟩)), (17, .agg ⟨[.int .i64 p2, .int .i64 p3]⟩), (18, .int .i64 r5), (19, .bool false), (20, .bool false), (21, undef), (22, undef), (23, undef), (24, undef), (25, undef), (26, undef), (27, undef), (28, undef), (29, undef), (30, undef), (31, undef), (32, .bool false)])) (h1 := [.cells 30 [.int .i64 p0, .int .i64 p1, .int .i64 p2, .int .i64 p3]]) (a2 := (st 33 [(2, .bool false)])) (h2 := [.dead]) [⟨64, [.agg ⟨[.int .i64 p0, .int .i64 p1]⟩, .agg ⟨[.int .i64 p0, .int .i64 p1]⟩], [.cells 30 [.int .i64 p0, .int .i64 p1, .int .i64 p2, .int .i64 p3]], .int .i64 r3, []⟩, ⟨64, [.agg ⟨[.int .i64 p2, .int .i64 p3]⟩, .agg ⟨[.int .i64 p2, .int .i64 p3]⟩], [.cells 30 [.int .i64 p0, .int .i64 p1, .int .i64 p2, .int .i64 p3]], .int .i64 r5, []⟩] hT mixed (by kernel_rfl) rfl 22 (by kernel_rfl) [] ?_ rfl (.inl ⟨rfl, rfl⟩) ?_ [2] [] (by kernel_rfl) ?_
    · refine QI.run (s1 := ({ act := (st 33 [(1, .pointer (some ⟨0, 0, none⟩)), (3, .int .i64 r1), (9, .pointer (some ⟨0, 0, none⟩)), (10, .agg ⟨[.int .i64 p0, .int .i64 p1]⟩), (11, .pointer (some ⟨0, 0, none⟩)), (12, .agg ⟨[.int .i64 p0, .int .i64 p1]⟩)]), heap := [.cells 30 [.int .i64 p0, .int .i64 p1, .int .i64 p2, .int .i64 p3]], own := [], upds := [] } : QSt)) 4 (by kernel_rfl) (by kernel_rfl) ?_
      refine QI.op (q := { val := .int .i64 r3, new := [] }) (s1 := ({ act := (st 33 [(1, .pointer (some ⟨0, 0, none⟩)), (3, .int .i64 r1), (9, .pointer (some ⟨0, 0, none⟩)), (10, .agg ⟨[.int .i64 p0, .int .i64 p1]⟩), (11, .pointer (some ⟨0, 0, none⟩)), (12, .agg ⟨[.int .i64 p0, .int .i64 p1]⟩), (13, .int .i64 r3)]), heap := [.cells 30 [.int .i64 p0, .int .i64 p1, .int .i64 p2, .int .i64 p3]], own := [], upds := [] } : QSt)) (by decide) (qOf_call (g := 64) (args := [.agg ⟨[.int .i64 p0, .int .i64 p1]⟩, .agg ⟨[.int .i64 p0, .int .i64 p1]⟩]) (by kernel_rfl) lookC_hit) (by kernel_rfl) ?_
      refine QI.run (s1 := ({ act := (st 33 [(1, .pointer (some ⟨0, 0, none⟩)), (3, .int .i64 r1), (9, .pointer (some ⟨0, 0, none⟩)), (10, .agg ⟨[.int .i64 p0, .int .i64 p1]⟩), (11, .pointer (some ⟨0, 0, none⟩)), (12, .agg ⟨[.int .i64 p0, .int .i64 p1]⟩), (13, .int .i64 r3), (14, .pointer (some ⟨0, 2, none⟩)), (15, .agg ⟨[.int .i64 p2, .int .i64 p3]⟩), (16, .pointer (some ⟨0, 2, none⟩)), (17, .agg ⟨[.int .i64 p2, .int .i64 p3]⟩)]), heap := [.cells 30 [.int .i64 p0, .int .i64 p1, .int .i64 p2, .int .i64 p3]], own := [], upds := [] } : QSt)) 4 (by kernel_rfl) (by kernel_rfl) ?_
      refine QI.op (q := { val := .int .i64 r5, new := [] }) (s1 := ({ act := (st 33 [(1, .pointer (some ⟨0, 0, none⟩)), (3, .int .i64 r1), (9, .pointer (some ⟨0, 0, none⟩)), (10, .agg ⟨[.int .i64 p0, .int .i64 p1]⟩), (11, .pointer (some ⟨0, 0, none⟩)), (12, .agg ⟨[.int .i64 p0, .int .i64 p1]⟩), (13, .int .i64 r3), (14, .pointer (some ⟨0, 2, none⟩)), (15, .agg ⟨[.int .i64 p2, .int .i64 p3]⟩), (16, .pointer (some ⟨0, 2, none⟩)), (17, .agg ⟨[.int .i64 p2, .int .i64 p3]⟩), (18, .int .i64 r5)]), heap := [.cells 30 [.int .i64 p0, .int .i64 p1, .int .i64 p2, .int .i64 p3]], own := [], upds := [] } : QSt)) (by decide) (qOf_call (g := 64) (args := [.agg ⟨[.int .i64 p2, .int .i64 p3]⟩, .agg ⟨[.int .i64 p2, .int .i64 p3]⟩]) (by kernel_rfl) (lookC_skip (by intro _ ha _; have hq := h4; have hi := h6; clear hF; first | (exfalso; simp at ha; done) | ((try simp at ha); have hr := Option.some.inj (hq.symm.trans (Eq.trans (by first | rfl | (congr 1 <;> first | rfl | omega | simp_all)) hi)); subst hr; rfl)) lookC_hit)) (by kernel_rfl) ?_
      refine QI.op (q := { val := .bool false }) (s1 := ({ act := (st 33 [(1, .pointer (some ⟨0, 0, none⟩)), (3, .int .i64 r1), (9, .pointer (some ⟨0, 0, none⟩)), (10, .agg ⟨[.int .i64 p0, .int .i64 p1]⟩), (11, .pointer (some ⟨0, 0, none⟩)), (12, .agg ⟨[.int .i64 p0, .int .i64 p1]⟩), (13, .int .i64 r3), (14, .pointer (some ⟨0, 2, none⟩)), (15, .agg ⟨[.int .i64 p2, .int .i64 p3]⟩), (16, .pointer (some ⟨0, 2, none⟩)), (17, .agg ⟨[.int .i64 p2, .int .i64 p3]⟩), (18, .int .i64 r5), (19, .bool false)]), heap := [.cells 30 [.int .i64 p0, .int .i64 p1, .int .i64 p2, .int .i64 p3]], own := [], upds := [] } : QSt)) (by decide) (q_conv (e := decide (r3 ≤ r5)) (b := false) (by kernel_rfl) hc7) (by kernel_rfl) ?_
      refine QI.run (s1 := ({ act := (st 33 [(1, .pointer (some ⟨0, 0, none⟩)), (3, .int .i64 r1), (9, .pointer (some ⟨0, 0, none⟩)), (10, .agg ⟨[.int .i64 p0, .int .i64 p1]⟩), (11, .pointer (some ⟨0, 0, none⟩)), (12, .agg ⟨[.int .i64 p0, .int .i64 p1]⟩), (13, .int .i64 r3), (14, .pointer (some ⟨0, 2, none⟩)), (15, .agg ⟨[.int .i64 p2, .int .i64 p3]⟩), (16, .pointer (some ⟨0, 2, none⟩)), (17, .agg ⟨[.int .i64 p2, .int .i64 p3]⟩), (18, .int .i64 r5), (19, .bool false), (20, .bool false), (21, undef), (22, undef), (23, undef), (24, undef), (25, undef), (26, undef), (27, undef), (28, undef), (29, undef), (30, undef)]), heap := [.cells 30 [.int .i64 p0, .int .i64 p1, .int .i64 p2, .int .i64 p3]], own := [], upds := [] } : QSt)) 11 (by kernel_rfl) (by kernel_rfl) ?_
      exact QI.done (by kernel_rfl)
    · refine SI.run (a2 := (st 33 [(1, .pointer (some ⟨0, 0, none⟩)), (2, .bool false), (3, .int .i64 r1), (9, .pointer (some ⟨0, 0, none⟩)), (10, .agg ⟨[.int .i64 p0, .int .i64 p1]⟩), (11, .pointer (some ⟨0, 0, none⟩)), (12, .agg ⟨[.int .i64 p0, .int .i64 p1]⟩), (13, .int .i64 r3), (14, .pointer (some ⟨0, 2, none⟩)), (15, .agg ⟨[.int .i64 p2, .int .i64 p3]⟩), (16, .pointer (some ⟨0, 2, none⟩)), (17, .agg ⟨[.int .i64 p2, .int .i64 p3]⟩), (18, .int .i64 r5), (19, .bool false), (20, .bool false), (21, undef), (22, undef), (23, undef), (24, undef), (25, undef), (26, undef), (27, undef), (28, undef), (29, undef), (30, undef), (31, undef), (32, .bool false)])) (h2 := [.cells 30 [.int .i64 p0, .int .i64 p1, .int .i64 p2, .int .i64 p3]]) 3 (by kernel_rfl) ?_
      exact SI.done (by kernel_rfl)
    exact hK
theorem C51 (p0 : Int) (p1 : Int) (p2 : Int) (p3 : Int) (r : Bool) (hF : F51 p0 p1 p2 p3 = some r) : PureSim Try.prog 51 [.agg ⟨[.int .i64 p0, .int .i64 p1, .int .i64 p2, .int .i64 p3]⟩] [] (V51 0 r) (N51 0 r) :=
  PureSim.of_Fin Try.func51 (c := c51) (by kernel_rfl) (by kernel_rfl) 0 rfl [0] [] (by kernel_rfl) (B51 p0 p1 p2 p3 r hF)

-- agonic/agonicref06.down
noncomputable def c74 : Code := Try.f74.code
def F74 (p0 : Int) (p1 : Int) : Option Int :=
  if p1 = 0 then none else
  (
    if decide ((Int.tmod p0 p1) < 0) then
      some (w64 ((w64 (Int.tdiv p0 p1)) - 1))
    else
      some (w64 (Int.tdiv p0 p1))
  : Option Int) >>= fun m5 =>
  some m5
def V74 (b : Nat) (r : Int) : Value := .int .i64 r
def N74 (b : Nat) (r : Int) : List Blk := []
theorem B74 (p0 : Int) (p1 : Int) (r : Int) (hF : F74 p0 p1 = some r) : TS Try.prog 0 0 c74 (st 16 [(0, .int .i64 p0), (1, .int .i64 p1)]) [] (NX Try.prog 0 0 [] (FinP Try.prog Try.f74 0 (V74 0 r) (N74 0 r))) := by
  unfold F74 at hF
  refine TS.seq' (x := c74.s1) (y := c74.s2) (by kernel_rfl) ?_
  refine TS.region' (id := 0) (b := false) (ops := c74.s1.rops) (by kernel_rfl) rfl ?_
  refine TI.run 1 [0, 1] [] (a2 := (st 16 [(0, .int .i64 p0), (1, .int .i64 p1)])) (h2 := []) (by kernel_rfl) ?_
  refine TI.done (by kernel_rfl) ?_
  refine NX.sq ?_
  refine TS.seq' (x := c74.s2.s1) (y := c74.s2.s2) (by kernel_rfl) ?_
  have hX := of_guardn hF
  clear hF
  obtain ⟨hg1, hF⟩ := hX
  refine TS.region' (id := 1) (b := false) (ops := c74.s2.s1.rops) (by kernel_rfl) rfl ?_
  refine TI.run 2 [0, 1, 6, 7] [] (a2 := (st 16 [(0, .int .i64 p0), (1, .int .i64 p1), (6, .int .i64 p0), (7, .int .i64 p1)])) (h2 := []) (by kernel_rfl) ?_
  refine TI.op (q := { val := .int .i64 (w64 (Int.tdiv p0 p1)) }) (q_int (P := Try.prog) (op := .quo) (ty := 3) (ox := (.tmp 6)) (oy := (.tmp 7)) (k := .i64) (k' := .i64) (y := p0) (z := p1) (by kernel_rfl) (quo_ok hg1)) [0, 1, 8] [] (a2 := (st 16 [(0, .int .i64 p0), (1, .int .i64 p1), (8, .int .i64 (w64 (Int.tdiv p0 p1)))])) (h2 := []) (by kernel_rfl) ?_
  refine TI.run 1 [0, 1, 5] [] (a2 := (st 16 [(0, .int .i64 p0), (1, .int .i64 p1), (5, .int .i64 (w64 (Int.tdiv p0 p1)))])) (h2 := []) (by kernel_rfl) ?_
  refine TI.done (by kernel_rfl) ?_
  refine NX.sq ?_
  refine TS.seq' (x := c74.s2.s2.s1) (y := c74.s2.s2.s2) (by kernel_rfl) ?_
  refine TS.seq' (x := c74.s2.s2.s1.s1) (y := c74.s2.s2.s1.s2) (by kernel_rfl) ?_
  refine TS.region' (id := 2) (b := false) (ops := c74.s2.s2.s1.s1.rops) (by kernel_rfl) rfl ?_
  refine TI.run 2 [5, 9, 10] [] (a2 := (st 16 [(5, .int .i64 (w64 (Int.tdiv p0 p1))), (9, .int .i64 p0), (10, .int .i64 p1)])) (h2 := []) (by kernel_rfl) ?_
  refine TI.op (q := { val := .int .i64 (Int.tmod p0 p1) }) (q_int (P := Try.prog) (op := .rem) (ty := 3) (ox := (.tmp 9)) (oy := (.tmp 10)) (k := .i64) (k' := .i64) (y := p0) (z := p1) (by kernel_rfl) (rem_ok hg1)) [5, 11] [] (a2 := (st 16 [(5, .int .i64 (w64 (Int.tdiv p0 p1))), (11, .int .i64 (Int.tmod p0 p1))])) (h2 := []) (by kernel_rfl) ?_
  refine TI.run 1 [5, 12] [] (a2 := (st 16 [(5, .int .i64 (w64 (Int.tdiv p0 p1))), (12, .bool (decide ((Int.tmod p0 p1) < 0)))])) (h2 := []) (by kernel_rfl) ?_
  refine TI.done (by kernel_rfl) ?_
  refine NX.sq ?_
  have hX := of_do hF
  clear hF
  obtain ⟨m5, hm6, hF⟩ := hX
  have hK : NX Try.prog 0 0 [.sq c74.s2.s2.s2] (FinP Try.prog Try.f74 0 (V74 0 r) (N74 0 r)) .normal (st 16 [(5, .int .i64 m5)]) [] := by
    refine NX.sq ?_
    refine TS.seq' (x := c74.s2.s2.s2.s1) (y := c74.s2.s2.s2.s2) (by kernel_rfl) ?_
    refine TS.region' (id := 4) (b := false) (ops := c74.s2.s2.s2.s1.rops) (by kernel_rfl) rfl ?_
    refine TI.run 2 [4] [] (a2 := (st 16 [(4, .int .i64 m5)])) (h2 := []) (by kernel_rfl) ?_
    refine TI.done (by kernel_rfl) ?_
    refine NX.sq ?_
    refine TS.ret' (by kernel_rfl) ?_
    have hF := Option.some.inj hF
    subst hF
    exact ⟨.inr rfl, rfl, .int .i64 m5, by kernel_rfl, WkV.flat0 (by kernel_rfl) (Nat.le_of_ble_eq_true rfl)⟩
  clear hF
  have hF := hm6
  clear hm6
  refine TS.start ?_
  refine TS.cond' (o := (.tmp 12)) (x := c74.s2.s2.s1.s2.th) (y := c74.s2.s2.s1.s2.el) (b := decide ((Int.tmod p0 p1) < 0)) (by kernel_rfl) (by kernel_rfl) (fun hc7 => ?_) (fun hc7 => ?_)
  · replace hF := of_pos hF hc7
    refine TS.region' (id := 3) (b := false) (ops := c74.s2.s2.s1.s2.th.rops) (by kernel_rfl) rfl ?_
    refine TI.run 3 [5] [] (a2 := (st 16 [(5, .int .i64 (w64 ((w64 (Int.tdiv p0 p1)) - 1)))])) (h2 := []) (by kernel_rfl) ?_
    refine TI.done (by kernel_rfl) ?_
    have hF := Option.some.inj hF
    subst hF
    exact TS.weak (Wk.anew (base := 0) (L := 0) (f := []) (by decide) (by decide) (Nat.le_of_ble_eq_true rfl) rfl (.nil _) (LRn.stx [5] [.int .i64 (w64 ((w64 (Int.tdiv p0 p1)) - 1))] [.int .i64 (w64 ((w64 (Int.tdiv p0 p1)) - 1))] (.cons (.flat (by kernel_rfl)) .nil) (by kernel_rfl) (by kernel_rfl) rfl) rfl rfl) hK
  · replace hF := of_neg hF hc7
    refine TS.skip' (by kernel_rfl) ?_
    have hF := Option.some.inj hF
    subst hF
    exact TS.weak (Wk.anew (base := 0) (L := 0) (f := []) (by decide) (by decide) (Nat.le_of_ble_eq_true rfl) rfl (.nil _) (LRn.stx [5] [.int .i64 (w64 (Int.tdiv p0 p1))] [.int .i64 (w64 (Int.tdiv p0 p1))] (.cons (.flat (by kernel_rfl)) .nil) (by kernel_rfl) (by kernel_rfl) rfl) rfl rfl) hK
theorem C74 (p0 : Int) (p1 : Int) (r : Int) (hF : F74 p0 p1 = some r) : PureSim Try.prog 74 [.int .i64 p0, .int .i64 p1] [] (V74 0 r) (N74 0 r) :=
  PureSim.of_Fin Try.func74 (c := c74) (by kernel_rfl) (by kernel_rfl) 0 rfl [0, 1] [] (by kernel_rfl) (B74 p0 p1 r hF)

-- agonic/agonicref06.bundles
noncomputable def c62 : Code := Try.f62.code
def F62l0 (p0 : Int) (p1 : Int) (p2 : Int) (p3 : Int) (v26 : Int) (v27 : Int) (v28 : Int) (v29 : Int) : Option (Int × Int × Int × Int) :=
    F57 p0 p1 p2 p3 v26 v27 >>= fun r59 =>
    F57 p0 p1 p2 p3 v28 v29 >>= fun r61 =>
    F51 r59.1 r59.2 r61.1 r61.2 >>= fun r63 =>
    (
      if r63 then
        some (false)
      else
        some (true)
    : Option Bool) >>= fun m65 =>
    if m65 then
      F57 p0 p1 p2 p3 v26 v27 >>= fun r66 =>
      F57 p0 p1 p2 p3 v28 v29 >>= fun r68 =>
      F64 r66.1 r66.2 r66.1 r66.2 >>= fun r70 =>
      F64 r68.1 r68.2 r68.1 r68.2 >>= fun r72 =>
      if decide (r70 > r72) then
        F62l0 p0 p1 p2 p3 v28 v29 v26 v27
      else
        F64 r66.1 r66.2 r68.1 r68.2 >>= fun r75 =>
        F64 r66.1 r66.2 r66.1 r66.2 >>= fun r77 =>
        F64 r66.1 r66.2 r66.1 r66.2 >>= fun r79 =>
        F74 (w64 ((w64 (2 * r75)) + r77)) (w64 (2 * r79)) >>= fun r81 =>
        F62l0 p0 p1 p2 p3 v26 v27 (w64 (v28 - (w64 (r81 * v26)))) (w64 (v29 - (w64 (r81 * v27))))
    else
      some (v26, v27, v28, v29)
  partial_fixpoint
def F62 (p0 : Int) (p1 : Int) (p2 : Int) (p3 : Int) : Option ((Int × Int) × (Int × Int)) :=
  F62l0 p0 p1 p2 p3 1 0 0 1 >>= fun r84 =>
  some ((r84.1, r84.2.1), (r84.2.2.1, r84.2.2.2))
def V62 (b : Nat) (r : ((Int × Int) × (Int × Int))) : Value := .tuple ⟨[.agg ⟨[.int .i64 r.1.1, .int .i64 r.1.2]⟩, .agg ⟨[.int .i64 r.2.1, .int .i64 r.2.2]⟩]⟩
def N62 (b : Nat) (r : ((Int × Int) × (Int × Int))) : List Blk := []
def P62l0 (p0 : Int) (p1 : Int) (p2 : Int) (p3 : Int) (r : (Int × Int × Int × Int)) : Post := fun e a h => e = .exit 0 ∧ Wk Try.prog 0 0 a h (st 65 [(2, .pointer (some ⟨0, 0, none⟩)), (3, .pointer (some ⟨1, 0, none⟩)), (4, .pointer (some ⟨2, 0, none⟩)), (5, .pointer (some ⟨3, 0, none⟩))]) [.cells 41 [.int .i64 0, .int .i64 0], .cells 41 [.int .i64 0, .int .i64 0], .cells 41 [.int .i64 r.1, .int .i64 r.2.1], .cells 41 [.int .i64 r.2.2.1, .int .i64 r.2.2.2]]
theorem L62l0 (p0 : Int) (p1 : Int) (p2 : Int) (p3 : Int) (v26 : Int) (v27 : Int) (v28 : Int) (v29 : Int) (r : (Int × Int × Int × Int)) (hF : F62l0 p0 p1 p2 p3 v26 v27 v28 v29 = some r) : TL Try.prog 0 0 c62.s2.s2.s1.bd.bd (st 65 [(1, .pointer (some ⟨0, 0, none⟩)), (2, .pointer (some ⟨1, 0, none⟩)), (3, .pointer (some ⟨2, 0, none⟩)), (4, .pointer (some ⟨3, 0, none⟩)), (5, .pointer (some ⟨4, 0, none⟩))]) [.cells 30 [.int .i64 p0, .int .i64 p1, .int .i64 p2, .int .i64 p3], .cells 41 [.int .i64 0, .int .i64 0], .cells 41 [.int .i64 0, .int .i64 0], .cells 41 [.int .i64 v26, .int .i64 v27], .cells 41 [.int .i64 v28, .int .i64 v29]] (P62l0 p0 p1 p2 p3 r) := by
  refine F62l0.partial_correctness p0 p1 p2 p3 (motive := fun v26 v27 v28 v29 r => TL Try.prog 0 0 c62.s2.s2.s1.bd.bd (st 65 [(1, .pointer (some ⟨0, 0, none⟩)), (2, .pointer (some ⟨1, 0, none⟩)), (3, .pointer (some ⟨2, 0, none⟩)), (4, .pointer (some ⟨3, 0, none⟩)), (5, .pointer (some ⟨4, 0, none⟩))]) [.cells 30 [.int .i64 p0, .int .i64 p1, .int .i64 p2, .int .i64 p3], .cells 41 [.int .i64 0, .int .i64 0], .cells 41 [.int .i64 0, .int .i64 0], .cells 41 [.int .i64 v26, .int .i64 v27], .cells 41 [.int .i64 v28, .int .i64 v29]] (P62l0 p0 p1 p2 p3 r)) ?_ v26 v27 v28 v29 r hF
  clear hF r v26 v27 v28 v29
  intro again ih v26 v27 v28 v29 r hF
  refine TL.round ?_
  refine TS.seq' (x := c62.s2.s2.s1.bd.bd.s1) (y := c62.s2.s2.s1.bd.bd.s2) (by kernel_rfl) ?_
  refine TS.seq' (x := c62.s2.s2.s1.bd.bd.s1.s1) (y := c62.s2.s2.s1.bd.bd.s1.s2) (by kernel_rfl) ?_
  have hX := of_do hF
  clear hF
  obtain ⟨r59, h60, hF⟩ := hX
  have hX := of_do hF
  clear hF
  obtain ⟨r61, h62, hF⟩ := hX
  have hX := of_do hF
  clear hF
  obtain ⟨r63, h64, hF⟩ := hX
  have hX := of_do hF
  clear hF
  obtain ⟨m65, hm83, hF⟩ := hX
  have hK : NX Try.prog 0 0 [.sq c62.s2.s2.s1.bd.bd.s1.s2, .sq c62.s2.s2.s1.bd.bd.s2] (Rd Try.prog 0 0 c62.s2.s2.s1.bd.bd (P62l0 p0 p1 p2 p3 r)) .normal (st 65 [(1, .pointer (some ⟨0, 0, none⟩)), (2, .pointer (some ⟨1, 0, none⟩)), (3, .pointer (some ⟨2, 0, none⟩)), (4, .pointer (some ⟨3, 0, none⟩)), (5, .pointer (some ⟨4, 0, none⟩)), (19, .bool m65)]) [.cells 30 [.int .i64 p0, .int .i64 p1, .int .i64 p2, .int .i64 p3], .cells 41 [.int .i64 0, .int .i64 0], .cells 41 [.int .i64 0, .int .i64 0], .cells 41 [.int .i64 v26, .int .i64 v27], .cells 41 [.int .i64 v28, .int .i64 v29]] := by
    refine NX.sq ?_
    cases m65 with
    | true =>
      replace hF := of_pos hF rfl
      refine TS.condT' (o := (.tmp 19)) (x := c62.s2.s2.s1.bd.bd.s1.s2.th) (y := c62.s2.s2.s1.bd.bd.s1.s2.el) (by kernel_rfl) (by kernel_rfl) ?_
      refine TS.skip' (by kernel_rfl) ?_
      refine NX.sq ?_
      refine TS.block' (id := 1) (x := c62.s2.s2.s1.bd.bd.s2.bd) (by kernel_rfl) ?_
      refine TS.seq' (x := c62.s2.s2.s1.bd.bd.s2.bd.s1) (y := c62.s2.s2.s1.bd.bd.s2.bd.s2) (by kernel_rfl) ?_
      have hX := of_do hF
      clear hF
      obtain ⟨r66, h67, hF⟩ := hX
      have hX := of_do hF
      clear hF
      obtain ⟨r68, h69, hF⟩ := hX
      have hT : ∀ e ∈ ([⟨57, [.agg ⟨[.int .i64 p0, .int .i64 p1, .int .i64 p2, .int .i64 p3]⟩, .agg ⟨[.int .i64 v26, .int .i64 v27]⟩], [.cells 30 [.int .i64 p0, .int .i64 p1, .int .i64 p2, .int .i64 p3], .cells 41 [.int .i64 0, .int .i64 0], .cells 41 [.int .i64 0, .int .i64 0], .cells 41 [.int .i64 v26, .int .i64 v27], .cells 41 [.int .i64 v28, .int .i64 v29]], .agg ⟨[.int .i64 r66.1, .int .i64 r66.2]⟩, []⟩, ⟨57, [.agg ⟨[.int .i64 p0, .int .i64 p1, .int .i64 p2, .int .i64 p3]⟩, .agg ⟨[.int .i64 v28, .int .i64 v29]⟩], [.cells 30 [.int .i64 p0, .int .i64 p1, .int .i64 p2, .int .i64 p3], .cells 41 [.int .i64 0, .int .i64 0], .cells 41 [.int .i64 0, .int .i64 0], .cells 41 [.int .i64 v26, .int .i64 v27], .cells 41 [.int .i64 v28, .int .i64 v29]], .agg ⟨[.int .i64 r68.1, .int .i64 r68.2]⟩, []⟩] : List Entry), PureSim Try.prog e.g e.args e.h e.v e.new := by
        intro e he
        simp only [List.mem_cons, List.not_mem_nil, or_false] at he
        rcases he with rfl | rfl
        · exact (PureSim.any (C57 p0 p1 p2 p3 v26 v27 r66 h67) (flatL (by kernel_rfl)) (by kernel_rfl) [.cells 30 [.int .i64 p0, .int .i64 p1, .int .i64 p2, .int .i64 p3], .cells 41 [.int .i64 0, .int .i64 0], .cells 41 [.int .i64 0, .int .i64 0], .cells 41 [.int .i64 v26, .int .i64 v27], .cells 41 [.int .i64 v28, .int .i64 v29]])
        · exact (PureSim.any (C57 p0 p1 p2 p3 v28 v29 r68 h69) (flatL (by kernel_rfl)) (by kernel_rfl) [.cells 30 [.int .i64 p0, .int .i64 p1, .int .i64 p2, .int .i64 p3], .cells 41 [.int .i64 0, .int .i64 0], .cells 41 [.int .i64 0, .int .i64 0], .cells 41 [.int .i64 v26, .int .i64 v27], .cells 41 [.int .i64 v28, .int .i64 v29]])
      refine TS.draw' (id := 3) (b := true) (ops := c62.s2.s2.s1.bd.bd.s2.bd.s1.rops) (fin := ({ act := (st 65 [(1, .pointer (some ⟨0, 0, none⟩)), (2, .pointer (some ⟨1, 0, none⟩)), (3, .pointer (some ⟨2, 0, none⟩)), (4, .pointer (some ⟨3, 0, none⟩)), (5, .pointer (some ⟨4, 0, none⟩)), (6, .pointer (some ⟨5, 0, none⟩)), (7, .pointer (some ⟨6, 0, none⟩)), (19, .bool true), (20, .agg ⟨[.int .i64 p0, .int .i64 p1, .int .i64 p2, .int .i64 p3]⟩), (21, .agg ⟨[.int .i64 v26, .int .i64 v27]⟩), (22, .agg ⟨[.int .i64 r66.1, .int .i64 r66.2]⟩), (23, .agg ⟨[.int .i64 p0, .int .i64 p1, .int .i64 p2, .int .i64 p3]⟩), (24, .agg ⟨[.int .i64 v28, .int .i64 v29]⟩), (25, .agg ⟨[.int .i64 r68.1, .int .i64 r68.2]⟩)]), heap := [.cells 30 [.int .i64 p0, .int .i64 p1, .int .i64 p2, .int .i64 p3], .cells 41 [.int .i64 0, .int .i64 0], .cells 41 [.int .i64 0, .int .i64 0], .cells 41 [.int .i64 v26, .int .i64 v27], .cells 41 [.int .i64 v28, .int .i64 v29], .cells 28 [.int .i64 0, .int .i64 0], .cells 28 [.int .i64 0, .int .i64 0]], own := [(7, 6, 7), (6, 5, 6)], upds := [] } : QSt)) (fin2 := ({ act := (st 65 [(1, .pointer (some ⟨0, 0, none⟩)), (2, .pointer (some ⟨1, 0, none⟩)), (3, .pointer (some ⟨2, 0, none⟩)), (4, .pointer (some ⟨3, 0, none⟩)), (5, .pointer (some ⟨4, 0, none⟩)), (6, .pointer (some ⟨5, 0, none⟩)), (7, .pointer (some ⟨6, 0, none⟩)), (19, .bool true), (20, .agg ⟨[.int .i64 p0, .int .i64 p1, .int .i64 p2, .int .i64 p3]⟩), (21, .agg ⟨[.int .i64 v26, .int .i64 v27]⟩), (22, .agg ⟨[.int .i64 r66.1, .int .i64 r66.2]⟩), (23, .agg ⟨[.int .i64 p0, .int .i64 p1, .int .i64 p2, .int .i64 p3]⟩), (24, .agg ⟨[.int .i64 v28, .int .i64 v29]⟩), (25, .agg ⟨[.int .i64 r68.1, .int .i64 r68.2]⟩)]), heap := [.cells 30 [.int .i64 p0, .int .i64 p1, .int .i64 p2, .int .i64 p3], .cells 41 [.int .i64 0, .int .i64 0], .cells 41 [.int .i64 0, .int .i64 0], .cells 41 [.int .i64 v26, .int .i64 v27], .cells 41 [.int .i64 v28, .int .i64 v29], .cells 28 [.int .i64 0, .int .i64 0], .cells 28 [.int .i64 0, .int .i64 0]], own := [(7, 6, 7), (6, 5, 6)], upds := [] } : QSt)) (a1 := (st 65 [(1, .pointer (some ⟨0, 0, none⟩)), (2, .pointer (some ⟨1, 0, none⟩)), (3, .pointer (some ⟨2, 0, none⟩)), (4, .pointer (some ⟨3, 0, none⟩)), (5, .pointer (some ⟨4, 0, none⟩)), (6, .pointer (some ⟨5, 0, none⟩)), (7, .pointer (some ⟨6, 0, none⟩)), (19, .bool true), (20, .agg ⟨[.int .i64 p0, .int .i64 p1, .int .i64 p2, .int .i64 p3]⟩), (21, .agg ⟨[.int .i64 v26, .int .i64 v27]⟩), (22, .agg ⟨[.int .i64 r66.1, .int .i64 r66.2]⟩), (23, .agg ⟨[.int .i64 p0, .int .i64 p1, .int .i64 p2, .int .i64 p3]⟩), (24, .agg ⟨[.int .i64 v28, .int .i64 v29]⟩), (25, .agg ⟨[.int .i64 r68.1, .int .i64 r68.2]⟩)])) (h1 := [.cells 30 [.int .i64 p0, .int .i64 p1, .int .i64 p2, .int .i64 p3], .cells 41 [.int .i64 0, .int .i64 0], .cells 41 [.int .i64 0, .int .i64 0], .cells 41 [.int .i64 v26, .int .i64 v27], .cells 41 [.int .i64 v28, .int .i64 v29], .cells 28 [.int .i64 r66.1, .int .i64 r66.2], .cells 28 [.int .i64 r68.1, .int .i64 r68.2]]) (a2 := (st 65 [(1, .pointer (some ⟨0, 0, none⟩)), (2, .pointer (some ⟨1, 0, none⟩)), (3, .pointer (some ⟨2, 0, none⟩)), (4, .pointer (some ⟨3, 0, none⟩)), (5, .pointer (some ⟨4, 0, none⟩)), (6, .pointer (some ⟨5, 0, none⟩)), (7, .pointer (some ⟨6, 0, none⟩))])) (h2 := [.cells 30 [.int .i64 p0, .int .i64 p1, .int .i64 p2, .int .i64 p3], .cells 41 [.int .i64 0, .int .i64 0], .cells 41 [.int .i64 0, .int .i64 0], .cells 41 [.int .i64 v26, .int .i64 v27], .cells 41 [.int .i64 v28, .int .i64 v29], .cells 28 [.int .i64 r66.1, .int .i64 r66.2], .cells 28 [.int .i64 r68.1, .int .i64 r68.2]]) [⟨57, [.agg ⟨[.int .i64 p0, .int .i64 p1, .int .i64 p2, .int .i64 p3]⟩, .agg ⟨[.int .i64 v26, .int .i64 v27]⟩], [.cells 30 [.int .i64 p0, .int .i64 p1, .int .i64 p2, .int .i64 p3], .cells 41 [.int .i64 0, .int .i64 0], .cells 41 [.int .i64 0, .int .i64 0], .cells 41 [.int .i64 v26, .int .i64 v27], .cells 41 [.int .i64 v28, .int .i64 v29]], .agg ⟨[.int .i64 r66.1, .int .i64 r66.2]⟩, []⟩, ⟨57, [.agg ⟨[.int .i64 p0, .int .i64 p1, .int .i64 p2, .int .i64 p3]⟩, .agg ⟨[.int .i64 v28, .int .i64 v29]⟩], [.cells 30 [.int .i64 p0, .int .i64 p1, .int .i64 p2, .int .i64 p3], .cells 41 [.int .i64 0, .int .i64 0], .cells 41 [.int .i64 0, .int .i64 0], .cells 41 [.int .i64 v26, .int .i64 v27], .cells 41 [.int .i64 v28, .int .i64 v29]], .agg ⟨[.int .i64 r68.1, .int .i64 r68.2]⟩, []⟩] hT mixed (by kernel_rfl) rfl 8 (by kernel_rfl) [] ?_ rfl (.inl ⟨rfl, rfl⟩) ?_ [1, 2, 3, 4, 5, 6, 7] [0, 1, 2, 3, 4, 5, 6] (by kernel_rfl) ?_
      · refine QI.run (s1 := ({ act := (st 65 [(1, .pointer (some ⟨0, 0, none⟩)), (2, .pointer (some ⟨1, 0, none⟩)), (3, .pointer (some ⟨2, 0, none⟩)), (4, .pointer (some ⟨3, 0, none⟩)), (5, .pointer (some ⟨4, 0, none⟩)), (19, .bool true), (20, .agg ⟨[.int .i64 p0, .int .i64 p1, .int .i64 p2, .int .i64 p3]⟩), (21, .agg ⟨[.int .i64 v26, .int .i64 v27]⟩)]), heap := [.cells 30 [.int .i64 p0, .int .i64 p1, .int .i64 p2, .int .i64 p3], .cells 41 [.int .i64 0, .int .i64 0], .cells 41 [.int .i64 0, .int .i64 0], .cells 41 [.int .i64 v26, .int .i64 v27], .cells 41 [.int .i64 v28, .int .i64 v29]], own := [], upds := [] } : QSt)) 2 (by kernel_rfl) (by kernel_rfl) ?_
        refine QI.op (q := { val := .agg ⟨[.int .i64 r66.1, .int .i64 r66.2]⟩, new := [] }) (s1 := ({ act := (st 65 [(1, .pointer (some ⟨0, 0, none⟩)), (2, .pointer (some ⟨1, 0, none⟩)), (3, .pointer (some ⟨2, 0, none⟩)), (4, .pointer (some ⟨3, 0, none⟩)), (5, .pointer (some ⟨4, 0, none⟩)), (19, .bool true), (20, .agg ⟨[.int .i64 p0, .int .i64 p1, .int .i64 p2, .int .i64 p3]⟩), (21, .agg ⟨[.int .i64 v26, .int .i64 v27]⟩), (22, .agg ⟨[.int .i64 r66.1, .int .i64 r66.2]⟩)]), heap := [.cells 30 [.int .i64 p0, .int .i64 p1, .int .i64 p2, .int .i64 p3], .cells 41 [.int .i64 0, .int .i64 0], .cells 41 [.int .i64 0, .int .i64 0], .cells 41 [.int .i64 v26, .int .i64 v27], .cells 41 [.int .i64 v28, .int .i64 v29]], own := [], upds := [] } : QSt)) (by decide) (qOf_call (g := 57) (args := [.agg ⟨[.int .i64 p0, .int .i64 p1, .int .i64 p2, .int .i64 p3]⟩, .agg ⟨[.int .i64 v26, .int .i64 v27]⟩]) (by kernel_rfl) lookC_hit) (by kernel_rfl) ?_
        refine QI.run (s1 := ({ act := (st 65 [(1, .pointer (some ⟨0, 0, none⟩)), (2, .pointer (some ⟨1, 0, none⟩)), (3, .pointer (some ⟨2, 0, none⟩)), (4, .pointer (some ⟨3, 0, none⟩)), (5, .pointer (some ⟨4, 0, none⟩)), (19, .bool true), (20, .agg ⟨[.int .i64 p0, .int .i64 p1, .int .i64 p2, .int .i64 p3]⟩), (21, .agg ⟨[.int .i64 v26, .int .i64 v27]⟩), (22, .agg ⟨[.int .i64 r66.1, .int .i64 r66.2]⟩), (23, .agg ⟨[.int .i64 p0, .int .i64 p1, .int .i64 p2, .int .i64 p3]⟩), (24, .agg ⟨[.int .i64 v28, .int .i64 v29]⟩)]), heap := [.cells 30 [.int .i64 p0, .int .i64 p1, .int .i64 p2, .int .i64 p3], .cells 41 [.int .i64 0, .int .i64 0], .cells 41 [.int .i64 0, .int .i64 0], .cells 41 [.int .i64 v26, .int .i64 v27], .cells 41 [.int .i64 v28, .int .i64 v29]], own := [], upds := [] } : QSt)) 2 (by kernel_rfl) (by kernel_rfl) ?_
        refine QI.op (q := { val := .agg ⟨[.int .i64 r68.1, .int .i64 r68.2]⟩, new := [] }) (s1 := ({ act := (st 65 [(1, .pointer (some ⟨0, 0, none⟩)), (2, .pointer (some ⟨1, 0, none⟩)), (3, .pointer (some ⟨2, 0, none⟩)), (4, .pointer (some ⟨3, 0, none⟩)), (5, .pointer (some ⟨4, 0, none⟩)), (19, .bool true), (20, .agg ⟨[.int .i64 p0, .int .i64 p1, .int .i64 p2, .int .i64 p3]⟩), (21, .agg ⟨[.int .i64 v26, .int .i64 v27]⟩), (22, .agg ⟨[.int .i64 r66.1, .int .i64 r66.2]⟩), (23, .agg ⟨[.int .i64 p0, .int .i64 p1, .int .i64 p2, .int .i64 p3]⟩), (24, .agg ⟨[.int .i64 v28, .int .i64 v29]⟩), (25, .agg ⟨[.int .i64 r68.1, .int .i64 r68.2]⟩)]), heap := [.cells 30 [.int .i64 p0, .int .i64 p1, .int .i64 p2, .int .i64 p3], .cells 41 [.int .i64 0, .int .i64 0], .cells 41 [.int .i64 0, .int .i64 0], .cells 41 [.int .i64 v26, .int .i64 v27], .cells 41 [.int .i64 v28, .int .i64 v29]], own := [], upds := [] } : QSt)) (by decide) (qOf_call (g := 57) (args := [.agg ⟨[.int .i64 p0, .int .i64 p1, .int .i64 p2, .int .i64 p3]⟩, .agg ⟨[.int .i64 v28, .int .i64 v29]⟩]) (by kernel_rfl) (lookC_skip (by intro _ ha _; have hq := h67; have hi := h69; clear hF; first | (exfalso; simp at ha; done) | ((try simp at ha); have hr := Option.some.inj (hq.symm.trans (Eq.trans (by first | rfl | (congr 1 <;> first | rfl | omega | simp_all)) hi)); subst hr; rfl)) lookC_hit)) (by kernel_rfl) ?_
        refine QI.run (s1 := ({ act := (st 65 [(1, .pointer (some ⟨0, 0, none⟩)), (2, .pointer (some ⟨1, 0, none⟩)), (3, .pointer (some ⟨2, 0, none⟩)), (4, .pointer (some ⟨3, 0, none⟩)), (5, .pointer (some ⟨4, 0, none⟩)), (6, .pointer (some ⟨5, 0, none⟩)), (7, .pointer (some ⟨6, 0, none⟩)), (19, .bool true), (20, .agg ⟨[.int .i64 p0, .int .i64 p1, .int .i64 p2, .int .i64 p3]⟩), (21, .agg ⟨[.int .i64 v26, .int .i64 v27]⟩), (22, .agg ⟨[.int .i64 r66.1, .int .i64 r66.2]⟩), (23, .agg ⟨[.int .i64 p0, .int .i64 p1, .int .i64 p2, .int .i64 p3]⟩), (24, .agg ⟨[.int .i64 v28, .int .i64 v29]⟩), (25, .agg ⟨[.int .i64 r68.1, .int .i64 r68.2]⟩)]), heap := [.cells 30 [.int .i64 p0, .int .i64 p1, .int .i64 p2, .int .i64 p3], .cells 41 [.int .i64 0, .int .i64 0], .cells 41 [.int .i64 0, .int .i64 0], .cells 41 [.int .i64 v26, .int .i64 v27], .cells 41 [.int .i64 v28, .int .i64 v29], .cells 28 [.int .i64 0, .int .i64 0], .cells 28 [.int .i64 0, .int .i64 0]], own := [(7, 6, 7), (6, 5, 6)], upds := [] } : QSt)) 2 (by kernel_rfl) (by kernel_rfl) ?_
        exact QI.done (by kernel_rfl)
      · refine SI.run (a2 := (st 65 [(1, .pointer (some ⟨0, 0, none⟩)), (2, .pointer (some ⟨1, 0, none⟩)), (3, .pointer (some ⟨2, 0, none⟩)), (4, .pointer (some ⟨3, 0, none⟩)), (5, .pointer (some ⟨4, 0, none⟩)), (6, .pointer (some ⟨5, 0, none⟩)), (7, .pointer (some ⟨6, 0, none⟩)), (19, .bool true), (20, .agg ⟨[.int .i64 p0, .int .i64 p1, .int .i64 p2, .int .i64 p3]⟩), (21, .agg ⟨[.int .i64 v26, .int .i64 v27]⟩), (22, .agg ⟨[.int .i64 r66.1, .int .i64 r66.2]⟩), (23, .agg ⟨[.int .i64 p0, .int .i64 p1, .int .i64 p2, .int .i64 p3]⟩), (24, .agg ⟨[.int .i64 v28, .int .i64 v29]⟩), (25, .agg ⟨[.int .i64 r68.1, .int .i64 r68.2]⟩)])) (h2 := [.cells 30 [.int .i64 p0, .int .i64 p1, .int .i64 p2, .int .i64 p3], .cells 41 [.int .i64 0, .int .i64 0], .cells 41 [.int .i64 0, .int .i64 0], .cells 41 [.int .i64 v26, .int .i64 v27], .cells 41 [.int .i64 v28, .int .i64 v29], .cells 28 [.int .i64 r66.1, .int .i64 r66.2], .cells 28 [.int .i64 r68.1, .int .i64 r68.2]]) 2 (by kernel_rfl) ?_
        exact SI.done (by kernel_rfl)
      refine TS.seq' (x := c62.s2.s2.s1.bd.bd.s2.bd.s2.s1) (y := c62.s2.s2.s1.bd.bd.s2.bd.s2.s2) (by kernel_rfl) ?_
      refine TS.seq' (x := c62.s2.s2.s1.bd.bd.s2.bd.s2.s1.s1) (y := c62.s2.s2.s1.bd.bd.s2.bd.s2.s1.s2) (by kernel_rfl) ?_
      have hX := of_do hF
      clear hF
      obtain ⟨r70, h71, hF⟩ := hX
      have hX := of_do hF
      clear hF
      obtain ⟨r72, h73, hF⟩ := hX
      have hT : ∀ e ∈ ([⟨64, [.agg ⟨[.int .i64 r66.1, .int .i64 r66.2]⟩, .agg ⟨[.int .i64 r66.1, .int .i64 r66.2]⟩], [.cells 30 [.int .i64 p0, .int .i64 p1, .int .i64 p2, .int .i64 p3], .cells 41 [.int .i64 0, .int .i64 0], .cells 41 [.int .i64 0, .int .i64 0], .cells 41 [.int .i64 v26, .int .i64 v27], .cells 41 [.int .i64 v28, .int .i64 v29], .cells 28 [.int .i64 r66.1, .int .i64 r66.2], .cells 28 [.int .i64 r68.1, .int .i64 r68.2]], .int .i64 r70, []⟩, ⟨64, [.agg ⟨[.int .i64 r68.1, .int .i64 r68.2]⟩, .agg ⟨[.int .i64 r68.1, .int .i64 r68.2]⟩], [.cells 30 [.int .i64 p0, .int .i64 p1, .int .i64 p2, .int .i64 p3], .cells 41 [.int .i64 0, .int .i64 0], .cells 41 [.int .i64 0, .int .i64 0], .cells 41 [.int .i64 v26, .int .i64 v27], .cells 41 [.int .i64 v28, .int .i64 v29], .cells 28 [.int .i64 r66.1, .int .i64 r66.2], .cells 28 [.int .i64 r68.1, .int .i64 r68.2]], .int .i64 r72, []⟩] : List Entry), PureSim Try.prog e.g e.args e.h e.v e.new := by
        intro e he
        simp only [List.mem_cons, List.not_mem_nil, or_false] at he
        rcases he with rfl | rfl
        · exact (PureSim.any (C64 r66.1 r66.2 r66.1 r66.2 r70 h71) (flatL (by kernel_rfl)) (by kernel_rfl) [.cells 30 [.int .i64 p0, .int .i64 p1, .int .i64 p2, .int .i64 p3], .cells 41 [.int .i64 0, .int .i64 0], .cells 41 [.int .i64 0, .int .i64 0], .cells 41 [.int .i64 v26, .int .i64 v27], .cells 41 [.int .i64 v28, .int .i64 v29], .cells 28 [.int .i64 r66.1, .int .i64 r66.2], .cells 28 [.int .i64 r68.1, .int .i64 r68.2]])
        · exact (PureSim.any (C64 r68.1 r68.2 r68.1 r68.2 r72 h73) (flatL (by kernel_rfl)) (by kernel_rfl) [.cells 30 [.int .i64 p0, .int .i64 p1, .int .i64 p2, .int .i64 p3], .cells 41 [.int .i64 0, .int .i64 0], .cells 41 [.int .i64 0, .int .i64 0], .cells 41 [.int .i64 v26, .int .i64 v27], .cells 41 [.int .i64 v28, .int .i64 v29], .cells 28 [.int .i64 r66.1, .int .i64 r66.2], .cells 28 [.int .i64 r68.1, .int .i64 r68.2]])
      refine TS.draw' (id := 4) (b := true) (ops := c62.s2.s2.s1.bd.bd.s2.bd.s2.s1.s1.rops) (fin := ({ act := (st 65 [(1, .pointer (some ⟨0, 0, none⟩)), (2, .pointer (some ⟨1, 0, none⟩)), (3, .pointer (some ⟨2, 0, none⟩)), (4, .pointer (some ⟨3, 0, none⟩)), (5, .pointer (some ⟨4, 0, none⟩)), (6, .pointer (some ⟨5, 0, none⟩)), (7, .pointer (some ⟨6, 0, none⟩)), (26, .agg ⟨[.int .i64 r66.1, .int .i64 r66.2]⟩), (27, .agg ⟨[.int .i64 r66.1, .int .i64 r66.2]⟩), (28, .int .i64 r70), (29, .agg ⟨[.int .i64 r68.1, .int .i64 r68.2]⟩), (30, .agg ⟨[.int .i64 r68.1, .int .i64 r68.2]⟩)]), heap := [.cells 30 [.int .i64 p0, .int .i64 p1, .int .i64 p2, .int .i64 p3], .cells 41 [.int .i64 0, .int .i64 0], .cells 41 [.int .i64 0, .int .i64 0], .cells 41 [.int .i64 v26, .int .i64 v27], .cells 41 [.int .i64 v28, .int .i64 v29], .cells 28 [.int .i64 r66.1, .int .i64 r66.2], .cells 28 [.int .i64 r68.1, .int .i64 r68.2]], own := [], upds := [] } : QSt)) (fin2 := ({ act := (st 65 [(1, .pointer (some ⟨0, 0, none⟩)), (2, .pointer (some ⟨1, 0, none⟩)), (3, .pointer (some ⟨2, 0, none⟩)), (4, .pointer (some ⟨3, 0, none⟩)), (5, .pointer (some ⟨4, 0, none⟩)), (6, .pointer (some ⟨5, 0, none⟩)), (7, .pointer (some ⟨6, 0, none⟩)), (26, .agg ⟨[.int .i64 r66.1, .int .i64 r66.2]⟩), (27, .agg ⟨[.int .i64 r66.1, .int .i64 r66.2]⟩), (28, .int .i64 r70), (29, .agg ⟨[.int .i64 r68.1, .int .i64 r68.2]⟩), (30, .agg ⟨[.int .i64 r68.1, .int .i64 r68.2]⟩)]), heap := [.cells 30 [.int .i64 p0, .int .i64 p1, .int .i64 p2, .int .i64 p3], .cells 41 [.int .i64 0, .int .i64 0], .cells 41 [.int .i64 0, .int .i64 0], .cells 41 [.int .i64 v26, .int .i64 v27], .cells 41 [.int .i64 v28, .int .i64 v29], .cells 28 [.int .i64 r66.1, .int .i64 r66.2], .cells 28 [.int .i64 r68.1, .int .i64 r68.2]], own := [], upds := [] } : QSt)) (a1 := (st 65 [(1, .pointer (some ⟨0, 0, none⟩)), (2, .pointer (some ⟨1, 0, none⟩)), (3, .pointer (some ⟨2, 0, none⟩)), (4, .pointer (some ⟨3, 0, none⟩)), (5, .pointer (some ⟨4, 0, none⟩)), (6, .pointer (some ⟨5, 0, none⟩)), (7, .pointer (some ⟨6, 0, none⟩)), (26, .agg ⟨[.int .i64 r66.1, .int .i64 r66.2]⟩), (27, .agg ⟨[.int .i64 r66.1, .int .i64 r66.2]⟩), (28, .int .i64 r70), (29, .agg ⟨[.int .i64 r68.1, .int .i64 r68.2]⟩), (30, .agg ⟨[.int .i64 r68.1, .int .i64 r68.2]⟩), (31, .int .i64 r72), (32, .bool (decide (r70 > r72)))])) (h1 := [.cells 30 [.int .i64 p0, .int .i64 p1, .int .i64 p2, .int .i64 p3], .cells 41 [.int .i64 0, .int .i64 0], .cells 41 [.int .i64 0, .int .i64 0], .cells 41 [.int .i64 v26, .int .i64 v27], .cells 41 [.int .i64 v28, .int .i64 v29], .cells 28 [.int .i64 r66.1, .int .i64 r66.2], .cells 28 [.int .i64 r68.1, .int .i64 r68.2]]) (a2 := (st 65 [(1, .pointer (some ⟨0, 0, none⟩)), (2, .pointer (some ⟨1, 0, none⟩)), (3, .pointer (some ⟨2, 0, none⟩)), (4, .pointer (some ⟨3, 0, none⟩)), (5, .pointer (some ⟨4, 0, none⟩)), (6, .pointer (some ⟨5, 0, none⟩)), (7, .pointer (some ⟨6, 0, none⟩)), (32, .bool (decide (r70 > r72)))])) (h2 := [.cells 30 [.int .i64 p0, .int .i64 p1, .int .i64 p2, .int .i64 p3], .cells 41 [.int .i64 0, .int .i64 0], .cells 41 [.int .i64 0, .int .i64 0], .cells 41 [.int .i64 v26, .int .i64 v27], .cells 41 [.int .i64 v28, .int .i64 v29], .cells 28 [.int .i64 r66.1, .int .i64 r66.2], .cells 28 [.int .i64 r68.1, .int .i64 r68.2]]) [⟨64, [.agg ⟨[.int .i64 r66.1, .int .i64 r66.2]⟩, .agg ⟨[.int .i64 r66.1, .int .i64 r66.2]⟩], [.cells 30 [.int .i64 p0, .int .i64 p1, .int .i64 p2, .int .i64 p3], .cells 41 [.int .i64 0, .int .i64 0], .cells 41 [.int .i64 0, .int .i64 0], .cells 41 [.int .i64 v26, .int .i64 v27], .cells 41 [.int .i64 v28, .int .i64 v29], .cells 28 [.int .i64 r66.1, .int .i64 r66.2], .cells 28 [.int .i64 r68.1, .int .i64 r68.2]], .int .i64 r70, []⟩, ⟨64, [.agg ⟨[.int .i64 r68.1, .int .i64 r68.2]⟩, .agg ⟨[.int .i64 r68.1, .int .i64 r68.2]⟩], [.cells 30 [.int .i64 p0, .int .i64 p1, .int .i64 p2, .int .i64 p3], .cells 41 [.int .i64 0, .int .i64 0], .cells 41 [.int .i64 0, .int .i64 0], .cells 41 [.int .i64 v26, .int .i64 v27], .cells 41 [.int .i64 v28, .int .i64 v29], .cells 28 [.int .i64 r66.1, .int .i64 r66.2], .cells 28 [.int .i64 r68.1, .int .i64 r68.2]], .int .i64 r72, []⟩] hT mixed (by kernel_rfl) rfl 5 (by kernel_rfl) [] ?_ rfl (.inl ⟨rfl, rfl⟩) ?_ [1, 2, 3, 4, 5, 6, 7, 32] [0, 1, 2, 3, 4, 5, 6] (by kernel_rfl) ?_
      · refine QI.run (s1 := ({ act := (st 65 [(1, .pointer (some ⟨0, 0, none⟩)), (2, .pointer (some ⟨1, 0, none⟩)), (3, .pointer (some ⟨2, 0, none⟩)), (4, .pointer (some ⟨3, 0, none⟩)), (5, .pointer (some ⟨4, 0, none⟩)), (6, .pointer (some ⟨5, 0, none⟩)), (7, .pointer (some ⟨6, 0, none⟩)), (26, .agg ⟨[.int .i64 r66.1, .int .i64 r66.2]⟩), (27, .agg ⟨[.int .i64 r66.1, .int .i64 r66.2]⟩)]), heap := [.cells 30 [.int .i64 p0, .int .i64 p1, .int .i64 p2, .int .i64 p3], .cells 41 [.int .i64 0, .int .i64 0], .cells 41 [.int .i64 0, .int .i64 0], .cells 41 [.int .i64 v26, .int .i64 v27], .cells 41 [.int .i64 v28, .int .i64 v29], .cells 28 [.int .i64 r66.1, .int .i64 r66.2], .cells 28 [.int .i64 r68.1, .int .i64 r68.2]], own := [], upds := [] } : QSt)) 2 (by kernel_rfl) (by kernel_rfl) ?_
        refine QI.op (q := { val := .int .i64 r70, new := [] }) (s1 := ({ act := (st 65 [(1, .pointer (some ⟨0, 0, none⟩)), (2, .pointer (some ⟨1, 0, none⟩)), (3, .pointer (some ⟨2, 0, none⟩)), (4, .pointer (some ⟨3, 0, none⟩)), (5, .pointer (some ⟨4, 0, none⟩)), (6, .pointer (some ⟨5, 0, none⟩)), (7, .pointer (some ⟨6, 0, none⟩)), (26, .agg ⟨[.int .i64 r66.1, .int .i64 r66.2]⟩), (27, .agg ⟨[.int .i64 r66.1, .int .i64 r66.2]⟩), (28, .int .i64 r70)]), heap := [.cells 30 [.int .i64 p0, .int .i64 p1, .int .i64 p2, .int .i64 p3], .cells 41 [.int .i64 0, .int .i64 0], .cells 41 [.int .i64 0, .int .i64 0], .cells 41 [.int .i64 v26, .int .i64 v27], .cells 41 [.int .i64 v28, .int .i64 v29], .cells 28 [.int .i64 r66.1, .int .i64 r66.2], .cells 28 [.int .i64 r68.1, .int .i64 r68.2]], own := [], upds := [] } : QSt)) (by decide) (qOf_call (g := 64) (args := [.agg ⟨[.int .i64 r66.1, .int .i64 r66.2]⟩, .agg ⟨[.int .i64 r66.1, .int .i64 r66.2]⟩]) (by kernel_rfl) lookC_hit) (by kernel_rfl) ?_
        refine QI.run (s1 := ({ act := (st 65 [(1, .pointer (some ⟨0, 0, none⟩)), (2, .pointer (some ⟨1, 0, none⟩)), (3, .pointer (some ⟨2, 0, none⟩)), (4, .pointer (some ⟨3, 0, none⟩)), (5, .pointer (some ⟨4, 0, none⟩)), (6, .pointer (some ⟨5, 0, none⟩)), (7, .pointer (some ⟨6, 0, none⟩)), (26, .agg ⟨[.int .i64 r66.1, .int .i64 r66.2]⟩), (27, .agg ⟨[.int .i64 r66.1, .int .i64 r66.2]⟩), (28, .int .i64 r70), (29, .agg ⟨[.int .i64 r68.1, .int .i64 r68.2]⟩), (30, .agg ⟨[.int .i64 r68.1, .int .i64 r68.2]⟩)]), heap := [.cells 30 [.int .i64 p0, .int .i64 p1, .int .i64 p2, .int .i64 p3], .cells 41 [.int .i64 0, .int .i64 0], .cells 41 [.int .i64 0, .int .i64 0], .cells 41 [.int .i64 v26, .int .i64 v27], .cells 41 [.int .i64 v28, .int .i64 v29], .cells 28 [.int .i64 r66.1, .int .i64 r66.2], .cells 28 [.int .i64 r68.1, .int .i64 r68.2]], own := [], upds := [] } : QSt)) 2 (by kernel_rfl) (by kernel_rfl) ?_
        exact QI.done (by kernel_rfl)
      · refine SI.op (q := { val := .int .i64 r72, new := [] }) (a2 := (st 65 [(1, .pointer (some ⟨0, 0, none⟩)), (2, .pointer (some ⟨1, 0, none⟩)), (3, .pointer (some ⟨2, 0, none⟩)), (4, .pointer (some ⟨3, 0, none⟩)), (5, .pointer (some ⟨4, 0, none⟩)), (6, .pointer (some ⟨5, 0, none⟩)), (7, .pointer (some ⟨6, 0, none⟩)), (26, .agg ⟨[.int .i64 r66.1, .int .i64 r66.2]⟩), (27, .agg ⟨[.int .i64 r66.1, .int .i64 r66.2]⟩), (28, .int .i64 r70), (29, .agg ⟨[.int .i64 r68.1, .int .i64 r68.2]⟩), (30, .agg ⟨[.int .i64 r68.1, .int .i64 r68.2]⟩), (31, .int .i64 r72)])) (h2 := [.cells 30 [.int .i64 p0, .int .i64 p1, .int .i64 p2, .int .i64 p3], .cells 41 [.int .i64 0, .int .i64 0], .cells 41 [.int .i64 0, .int .i64 0], .cells 41 [.int .i64 v26, .int .i64 v27], .cells 41 [.int .i64 v28, .int .i64 v29], .cells 28 [.int .i64 r66.1, .int .i64 r66.2], .cells 28 [.int .i64 r68.1, .int .i64 r68.2]]) (by kernel_rfl) (qOf_call (g := 64) (args := [.agg ⟨[.int .i64 r68.1, .int .i64 r68.2]⟩, .agg ⟨[.int .i64 r68.1, .int .i64 r68.2]⟩]) (by kernel_rfl) (lookC_skip (by intro _ ha _; have hq := h71; have hi := h73; clear hF; first | (exfalso; simp at ha; done) | ((try simp at ha); have hr := Option.some.inj (hq.symm.trans (Eq.trans (by first | rfl | (congr 1 <;> first | rfl | omega | simp_all)) hi)); subst hr; rfl)) lookC_hit)) (by kernel_rfl) (by kernel_rfl) ?_
        refine SI.run (a2 := (st 65 [(1, .pointer (some ⟨0, 0, none⟩)), (2, .pointer (some ⟨1, 0, none⟩)), (3, .pointer (some ⟨2, 0, none⟩)), (4, .pointer (some ⟨3, 0, none⟩)), (5, .pointer (some ⟨4, 0, none⟩)), (6, .pointer (some ⟨5, 0, none⟩)), (7, .pointer (some ⟨6, 0, none⟩)), (26, .agg ⟨[.int .i64 r66.1, .int .i64 r66.2]⟩), (27, .agg ⟨[.int .i64 r66.1, .int .i64 r66.2]⟩), (28, .int .i64 r70), (29, .agg ⟨[.int .i64 r68.1, .int .i64 r68.2]⟩), (30, .agg ⟨[.int .i64 r68.1, .int .i64 r68.2]⟩), (31, .int .i64 r72), (32, .bool (decide (r70 > r72)))])) (h2 := [.cells 30 [.int .i64 p0, .int .i64 p1, .int .i64 p2, .int .i64 p3], .cells 41 [.int .i64 0, .int .i64 0], .cells 41 [.int .i64 0, .int .i64 0], .cells 41 [.int .i64 v26, .int .i64 v27], .cells 41 [.int .i64 v28, .int .i64 v29], .cells 28 [.int .i64 r66.1, .int .i64 r66.2], .cells 28 [.int .i64 r68.1, .int .i64 r68.2]]) 1 (by kernel_rfl) ?_
        exact SI.done (by kernel_rfl)
      refine TS.cond' (o := (.tmp 32)) (x := c62.s2.s2.s1.bd.bd.s2.bd.s2.s1.s2.th) (y := c62.s2.s2.s1.bd.bd.s2.bd.s2.s1.s2.el) (b := decide (r70 > r72)) (by kernel_rfl) (by kernel_rfl) (fun hc74 => ?_) (fun hc74 => ?_)
      · replace hF := of_pos hF hc74
        refine TS.seq' (x := c62.s2.s2.s1.bd.bd.s2.bd.s2.s1.s2.th.s1) (y := c62.s2.s2.s1.bd.bd.s2.bd.s2.s1.s2.th.s2) (by kernel_rfl) ?_
        refine TS.region' (id := 5) (b := false) (ops := c62.s2.s2.s1.bd.bd.s2.bd.s2.s1.s2.th.s1.rops) (by kernel_rfl) rfl ?_
        refine TI.run 4 [1, 2, 3, 4, 5] [0, 1, 2, 3, 4] (a2 := (st 65 [(1, .pointer (some ⟨0, 0, none⟩)), (2, .pointer (some ⟨1, 0, none⟩)), (3, .pointer (some ⟨2, 0, none⟩)), (4, .pointer (some ⟨3, 0, none⟩)), (5, .pointer (some ⟨4, 0, none⟩))])) (h2 := [.cells 30 [.int .i64 p0, .int .i64 p1, .int .i64 p2, .int .i64 p3], .cells 41 [.int .i64 0, .int .i64 0], .cells 41 [.int .i64 0, .int .i64 0], .cells 41 [.int .i64 v28, .int .i64 v29], .cells 41 [.int .i64 v26, .int .i64 v27], .dead, .dead]) (by kernel_rfl) ?_
        refine TI.done (by kernel_rfl) ?_
        refine NX.sq ?_
        refine TS.exit' (id := 1) (by kernel_rfl) ?_
        refine NX.sqX ?_
        refine NX.bkX ?_
        exact Rd.again (a2 := (st 65 [(1, .pointer (some ⟨0, 0, none⟩)), (2, .pointer (some ⟨1, 0, none⟩)), (3, .pointer (some ⟨2, 0, none⟩)), (4, .pointer (some ⟨3, 0, none⟩)), (5, .pointer (some ⟨4, 0, none⟩))])) (h2 := [.cells 30 [.int .i64 p0, .int .i64 p1, .int .i64 p2, .int .i64 p3], .cells 41 [.int .i64 0, .int .i64 0], .cells 41 [.int .i64 0, .int .i64 0], .cells 41 [.int .i64 v28, .int .i64 v29], .cells 41 [.int .i64 v26, .int .i64 v27]]) (Wk.anew (base := 0) (L := 0) (f := [0, 1, 2, 3, 4]) (by decide) (by decide) (Nat.le_of_ble_eq_true rfl) rfl (.cons (At.blk (by kernel_rfl) (RnB.lit (.cons (.flat (by kernel_rfl)) (.cons (.flat (by kernel_rfl)) (.cons (.flat (by kernel_rfl)) (.cons (.flat (by kernel_rfl)) .nil)))))) (.cons (At.blk (by kernel_rfl) (RnB.lit (.cons (.flat (by kernel_rfl)) (.cons (.flat (by kernel_rfl)) .nil)))) (.cons (At.blk (by kernel_rfl) (RnB.lit (.cons (.flat (by kernel_rfl)) (.cons (.flat (by kernel_rfl)) .nil)))) (.cons (At.blk (by kernel_rfl) (RnB.lit (.cons (.flat (by kernel_rfl)) (.cons (.flat (by kernel_rfl)) .nil)))) (.cons (At.blk (by kernel_rfl) (RnB.lit (.cons (.flat (by kernel_rfl)) (.cons (.flat (by kernel_rfl)) .nil)))) (.nil _)))))) (LRn.stx [1, 2, 3, 4, 5] [.pointer (some ⟨0, 0, none⟩), .pointer (some ⟨1, 0, none⟩), .pointer (some ⟨2, 0, none⟩), .pointer (some ⟨3, 0, none⟩), .pointer (some ⟨4, 0, none⟩)] [.pointer (some ⟨0, 0, none⟩), .pointer (some ⟨1, 0, none⟩), .pointer (some ⟨2, 0, none⟩), .pointer (some ⟨3, 0, none⟩), .pointer (some ⟨4, 0, none⟩)] (.cons (Rn.ptr _ _ _ (Nat.le_of_ble_eq_true rfl) rfl) (.cons (Rn.ptr _ _ _ (Nat.le_of_ble_eq_true rfl) rfl) (.cons (Rn.ptr _ _ _ (Nat.le_of_ble_eq_true rfl) rfl) (.cons (Rn.ptr _ _ _ (Nat.le_of_ble_eq_true rfl) rfl) (.cons (Rn.ptr _ _ _ (Nat.le_of_ble_eq_true rfl) rfl) .nil))))) (by kernel_rfl) (by kernel_rfl) rfl) rfl rfl) (ih v28 v29 v26 v27 _ hF)
      · replace hF := of_neg hF hc74
        refine TS.skip' (by kernel_rfl) ?_
        refine NX.sq ?_
        refine TS.seq' (x := c62.s2.s2.s1.bd.bd.s2.bd.s2.s2.s1) (y := c62.s2.s2.s1.bd.bd.s2.bd.s2.s2.s2) (by kernel_rfl) ?_
        have hX := of_do hF
        clear hF
        obtain ⟨r75, h76, hF⟩ := hX
        have hX := of_do hF
        clear hF
        obtain ⟨r77, h78, hF⟩ := hX
        have hX := of_do hF
        clear hF
        obtain ⟨r79, h80, hF⟩ := hX
        have hX := of_do hF
        clear hF
        obtain ⟨r81, h82, hF⟩ := hX
        have hT : ∀ e ∈ ([⟨64, [.agg ⟨[.int .i64 r66.1, .int .i64 r66.2]⟩, .agg ⟨[.int .i64 r68.1, .int .i64 r68.2]⟩], [.cells 30 [.int .i64 p0, .int .i64 p1, .int .i64 p2, .int .i64 p3], .cells 41 [.int .i64 0, .int .i64 0], .cells 41 [.int .i64 0, .int .i64 0], .cells 41 [.int .i64 v26, .int .i64 v27], .cells 41 [.int .i64 v28, .int .i64 v29], .cells 28 [.int .i64 r66.1, .int .i64 r66.2], .cells 28 [.int .i64 r68.1, .int .i64 r68.2]], .int .i64 r75, []⟩, ⟨64, [.agg ⟨[.int .i64 r66.1, .int .i64 r66.2]⟩, .agg ⟨[.int .i64 r66.1, .int .i64 r66.2]⟩], [.cells 30 [.int .i64 p0, .int .i64 p1, .int .i64 p2, .int .i64 p3], .cells 41 [.int .i64 0, .int .i64 0], .cells 41 [.int .i64 0, .int .i64 0], .cells 41 [.int .i64 v26, .int .i64 v27], .cells 41 [.int .i64 v28, .int .i64 v29], .cells 28 [.int .i64 r66.1, .int .i64 r66.2], .cells 28 [.int .i64 r68.1, .int .i64 r68.2]], .int .i64 r77, []⟩, ⟨64, [.agg ⟨[.int .i64 r66.1, .int .i64 r66.2]⟩, .agg ⟨[.int .i64 r66.1, .int .i64 r66.2]⟩], [.cells 30 [.int .i64 p0, .int .i64 p1, .int .i64 p2, .int .i64 p3], .cells 41 [.int .i64 0, .int .i64 0], .cells 41 [.int .i64 0, .int .i64 0], .cells 41 [.int .i64 v26, .int .i64 v27], .cells 41 [.int .i64 v28, .int .i64 v29], .cells 28 [.int .i64 r66.1, .int .i64 r66.2], .cells 28 [.int .i64 r68.1, .int .i64 r68.2]], .int .i64 r79, []⟩, ⟨74, [.int .i64 (w64 ((w64 (2 * r75)) + r77)), .int .i64 (w64 (2 * r79))], [.cells 30 [.int .i64 p0, .int .i64 p1, .int .i64 p2, .int .i64 p3], .cells 41 [.int .i64 0, .int .i64 0], .cells 41 [.int .i64 0, .int .i64 0], .cells 41 [.int .i64 v26, .int .i64 v27], .cells 41 [.int .i64 v28, .int .i64 v29], .cells 28 [.int .i64 r66.1, .int .i64 r66.2], .cells 28 [.int .i64 r68.1, .int .i64 r68.2]], .int .i64 r81, []⟩] : List Entry), PureSim Try.prog e.g e.args e.h e.v e.new := by
          intro e he
          simp only [List.mem_cons, List.not_mem_nil, or_false] at he
          rcases he with rfl | rfl | rfl | rfl
          · exact (PureSim.any (C64 r66.1 r66.2 r68.1 r68.2 r75 h76) (flatL (by kernel_rfl)) (by kernel_rfl) [.cells 30 [.int .i64 p0, .int .i64 p1, .int .i64 p2, .int .i64 p3], .cells 41 [.int .i64 0, .int .i64 0], .cells 41 [.int .i64 0, .int .i64 0], .cells 41 [.int .i64 v26, .int .i64 v27], .cells 41 [.int .i64 v28, .int .i64 v29], .cells 28 [.int .i64 r66.1, .int .i64 r66.2], .cells 28 [.int .i64 r68.1, .int .i64 r68.2]])
          · exact (PureSim.any (C64 r66.1 r66.2 r66.1 r66.2 r77 h78) (flatL (by kernel_rfl)) (by kernel_rfl) [.cells 30 [.int .i64 p0, .int .i64 p1, .int .i64 p2, .int .i64 p3], .cells 41 [.int .i64 0, .int .i64 0], .cells 41 [.int .i64 0, .int .i64 0], .cells 41 [.int .i64 v26, .int .i64 v27], .cells 41 [.int .i64 v28, .int .i64 v29], .cells 28 [.int .i64 r66.1, .int .i64 r66.2], .cells 28 [.int .i64 r68.1, .int .i64 r68.2]])
          · exact (PureSim.any (C64 r66.1 r66.2 r66.1 r66.2 r79 h80) (flatL (by kernel_rfl)) (by kernel_rfl) [.cells 30 [.int .i64 p0, .int .i64 p1, .int .i64 p2, .int .i64 p3], .cells 41 [.int .i64 0, .int .i64 0], .cells 41 [.int .i64 0, .int .i64 0], .cells 41 [.int .i64 v26, .int .i64 v27], .cells 41 [.int .i64 v28, .int .i64 v29], .cells 28 [.int .i64 r66.1, .int .i64 r66.2], .cells 28 [.int .i64 r68.1, .int .i64 r68.2]])
          · exact (PureSim.any (C74 (w64 ((w64 (2 * r75)) + r77)) (w64 (2 * r79)) r81 h82) (flatL (by kernel_rfl)) (by kernel_rfl) [.cells 30 [.int .i64 p0, .int .i64 p1, .int .i64 p2, .int .i64 p3], .cells 41 [.int .i64 0, .int .i64 0], .cells 41 [.int .i64 0, .int .i64 0], .cells 41 [.int .i64 v26, .int .i64 v27], .cells 41 [.int .i64 v28, .int .i64 v29], .cells 28 [.int .i64 r66.1, .int .i64 r66.2], .cells 28 [.int .i64 r68.1, .int .i64 r68.2]])
        refine TS.draw' (id := 6) (b := true) (ops := c62.s2.s2.s1.bd.bd.s2.bd.s2.s2.s1.rops) (fin := ({ act := (st 65 [(1, .pointer (some ⟨0, 0, none⟩)), (2, .pointer (some ⟨1, 0, none⟩)), (3, .pointer (some ⟨2, 0, none⟩)), (4, .pointer (some ⟨3, 0, none⟩)), (5, .pointer (some ⟨4, 0, none⟩)), (6, .pointer (some ⟨5, 0, none⟩)), (7, .pointer (some ⟨6, 0, none⟩)), (32, .bool (decide (r70 > r72))), (35, .agg ⟨[.int .i64 r66.1, .int .i64 r66.2]⟩), (36, .agg ⟨[.int .i64 r68.1, .int .i64 r68.2]⟩), (37, .int .i64 r75), (38, .int .i64 (w64 (2 * r75))), (39, .agg ⟨[.int .i64 r66.1, .int .i64 r66.2]⟩), (40, .agg ⟨[.int .i64 r66.1, .int .i64 r66.2]⟩), (41, .int .i64 r77), (42, .int .i64 (w64 ((w64 (2 * r75)) + r77))), (43, .agg ⟨[.int .i64 r66.1, .int .i64 r66.2]⟩), (44, .agg ⟨[.int .i64 r66.1, .int .i64 r66.2]⟩), (45, .int .i64 r79), (46, .int .i64 (w64 (2 * r79)))]), heap := [.cells 30 [.int .i64 p0, .int .i64 p1, .int .i64 p2, .int .i64 p3], .cells 41 [.int .i64 0, .int .i64 0], .cells 41 [.int .i64 0, .int .i64 0], .cells 41 [.int .i64 v26, .int .i64 v27], .cells 41 [.int .i64 v28, .int .i64 v29], .cells 28 [.int .i64 r66.1, .int .i64 r66.2], .cells 28 [.int .i64 r68.1, .int .i64 r68.2]], own := [], upds := [] } : QSt)) (fin2 := ({ act := (st 65 [(1, .pointer (some ⟨0, 0, none⟩)), (2, .pointer (some ⟨1, 0, none⟩)), (3, .pointer (some ⟨2, 0, none⟩)), (4, .pointer (some ⟨3, 0, none⟩)), (5, .pointer (some ⟨4, 0, none⟩)), (6, .pointer (some ⟨5, 0, none⟩)), (7, .pointer (some ⟨6, 0, none⟩)), (32, .bool (decide (r70 > r72))), (35, .agg ⟨[.int .i64 r66.1, .int .i64 r66.2]⟩), (36, .agg ⟨[.int .i64 r68.1, .int .i64 r68.2]⟩), (37, .int .i64 r75), (38, .int .i64 (w64 (2 * r75))), (39, .agg ⟨[.int .i64 r66.1, .int .i64 r66.2]⟩), (40, .agg ⟨[.int .i64 r66.1, .int .i64 r66.2]⟩), (41, .int .i64 r77), (42, .int .i64 (w64 ((w64 (2 * r75)) + r77))), (43, .agg ⟨[.int .i64 r66.1, .int .i64 r66.2]⟩), (44, .agg ⟨[.int .i64 r66.1, .int .i64 r66.2]⟩), (45, .int .i64 r79), (46, .int .i64 (w64 (2 * r79)))]), heap := [.cells 30 [.int .i64 p0, .int .i64 p1, .int .i64 p2, .int .i64 p3], .cells 41 [.int .i64 0, .int .i64 0], .cells 41 [.int .i64 0, .int .i64 0], .cells 41 [.int .i64 v26, .int .i64 v27], .cells 41 [.int .i64 v28, .int .i64 v29], .cells 28 [.int .i64 r66.1, .int .i64 r66.2], .cells 28 [.int .i64 r68.1, .int .i64 r68.2]], own := [], upds := [] } : QSt)) (a1 := (st 65 [(1, .pointer (some ⟨0, 0, none⟩)), (2, .pointer (some ⟨1, 0, none⟩)), (3, .pointer (some ⟨2, 0, none⟩)), (4, .pointer (some ⟨3, 0, none⟩)), (5, .pointer (some ⟨4, 0, none⟩)), (6, .pointer (some ⟨5, 0, none⟩)), (7, .pointer (some ⟨6, 0, none⟩)), (8, .int .i64 r81), (32, .bool (decide (r70 > r72))), (35, .agg ⟨[.int .i64 r66.1, .int .i64 r66.2]⟩), (36, .agg ⟨[.int .i64 r68.1, .int .i64 r68.2]⟩), (37, .int .i64 r75), (38, .int .i64 (w64 (2 * r75))), (39, .agg ⟨[.int .i64 r66.1, .int .i64 r66.2]⟩), (40, .agg ⟨[.int .i64 r66.1, .int .i64 r66.2]⟩), (41, .int .i64 r77), (42, .int .i64 (w64 ((w64 (2 * r75)) + r77))), (43, .agg ⟨[.int .i64 r66.1, .int .i64 r66.2]⟩), (44, .agg ⟨[.int .i64 r66.1, .int .i64 r66.2]⟩), (45, .int .i64 r79), (46, .int .i64 (w64 (2 * r79))), (47, .int .i64 r81)])) (h1 := [.cells 30 [.int .i64 p0, .int .i64 p1, .int .i64 p2, .int .i64 p3], .cells 41 [.int .i64 0, .int .i64 0], .cells 41 [.int .i64 0, .int .i64 0], .cells 41 [.int .i64 v26, .int .i64 v27], .cells 41 [.int .i64 v28, .int .i64 v29], .cells 28 [.int .i64 r66.1, .int .i64 r66.2], .cells 28 [.int .i64 r68.1, .int .i64 r68.2]]) (a2 := (st 65 [(1, .pointer (some ⟨0, 0, none⟩)), (2, .pointer (some ⟨1, 0, none⟩)), (3, .pointer (some ⟨2, 0, none⟩)), (4, .pointer (some ⟨3, 0, none⟩)), (5, .pointer (some ⟨4, 0, none⟩)), (8, .int .i64 r81)])) (h2 := [.cells 30 [.int .i64 p0, .int .i64 p1, .int .i64 p2, .int .i64 p3], .cells 41 [.int .i64 0, .int .i64 0], .cells 41 [.int .i64 0, .int .i64 0], .cells 41 [.int .i64 v26, .int .i64 v27], .cells 41 [.int .i64 v28, .int .i64 v29], .dead, .dead]) [⟨64, [.agg ⟨[.int .i64 r66.1, .int .i64 r66.2]⟩, .agg ⟨[.int .i64 r68.1, .int .i64 r68.2]⟩], [.cells 30 [.int .i64 p0, .int .i64 p1, .int .i64 p2, .int .i64 p3], .cells 41 [.int .i64 0, .int .i64 0], .cells 41 [.int .i64 0, .int .i64 0], .cells 41 [.int .i64 v26, .int .i64 v27], .cells 41 [.int .i64 v28, .int .i64 v29], .cells 28 [.int .i64 r66.1, .int .i64 r66.2], .cells 28 [.int .i64 r68.1, .int .i64 r68.2]], .int .i64 r75, []⟩, ⟨64, [.agg ⟨[.int .i64 r66.1, .int .i64 r66.2]⟩, .agg ⟨[.int .i64 r66.1, .int .i64 r66.2]⟩], [.cells 30 [.int .i64 p0, .int .i64 p1, .int .i64 p2, .int .i64 p3], .cells 41 [.int .i64 0, .int .i64 0], .cells 41 [.int .i64 0, .int .i64 0], .cells 41 [.int .i64 v26, .int .i64 v27], .cells 41 [.int .i64 v28, .int .i64 v29], .cells 28 [.int .i64 r66.1, .int .i64 r66.2], .cells 28 [.int .i64 r68.1, .int .i64 r68.2]], .int .i64 r77, []⟩, ⟨64, [.agg ⟨[.int .i64 r66.1, .int .i64 r66.2]⟩, .agg ⟨[.int .i64 r66.1, .int .i64 r66.2]⟩], [.cells 30 [.int .i64 p0, .int .i64 p1, .int .i64 p2, .int .i64 p3], .cells 41 [.int .i64 0, .int .i64 0], .cells 41 [.int .i64 0, .int .i64 0], .cells 41 [.int .i64 v26, .int .i64 v27], .cells 41 [.int .i64 v28, .int .i64 v29], .cells 28 [.int .i64 r66.1, .int .i64 r66.2], .cells 28 [.int .i64 r68.1, .int .i64 r68.2]], .int .i64 r79, []⟩, ⟨74, [.int .i64 (w64 ((w64 (2 * r75)) + r77)), .int .i64 (w64 (2 * r79))], [.cells 30 [.int .i64 p0, .int .i64 p1, .int .i64 p2, .int .i64 p3], .cells 41 [.int .i64 0, .int .i64 0], .cells 41 [.int .i64 0, .int .i64 0], .cells 41 [.int .i64 v26, .int .i64 v27], .cells 41 [.int .i64 v28, .int .i64 v29], .cells 28 [.int .i64 r66.1, .int .i64 r66.2], .cells 28 [.int .i64 r68.1, .int .i64 r68.2]], .int .i64 r81, []⟩] hT mixed (by kernel_rfl) rfl 12 (by kernel_rfl) [] ?_ rfl (.inl ⟨rfl, rfl⟩) ?_ [1, 2, 3, 4, 5, 8] [0, 1, 2, 3, 4] (by kernel_rfl) ?_
        · refine QI.run (s1 := ({ act := (st 65 [(1, .pointer (some ⟨0, 0, none⟩)), (2, .pointer (some ⟨1, 0, none⟩)), (3, .pointer (some ⟨2, 0, none⟩)), (4, .pointer (some ⟨3, 0, none⟩)), (5, .pointer (some ⟨4, 0, none⟩)), (6, .pointer (some ⟨5, 0, none⟩)), (7, .pointer (some ⟨6, 0, none⟩)), (32, .bool (decide (r70 > r72))), (35, .agg ⟨[.int .i64 r66.1, .int .i64 r66.2]⟩), (36, .agg ⟨[.int .i64 r68.1, .int .i64 r68.2]⟩)]), heap := [.cells 30 [.int .i64 p0, .int .i64 p1, .int .i64 p2, .int .i64 p3], .cells 41 [.int .i64 0, .int .i64 0], .cells 41 [.int .i64 0, .int .i64 0], .cells 41 [.int .i64 v26, .int .i64 v27], .cells 41 [.int .i64 v28, .int .i64 v29], .cells 28 [.int .i64 r66.1, .int .i64 r66.2], .cells 28 [.int .i64 r68.1, .int .i64 r68.2]], own := [], upds := [] } : QSt)) 2 (by kernel_rfl) (by kernel_rfl) ?_
          refine QI.op (q := { val := .int .i64 r75, new := [] }) (s1 := ({ act := (st 65 [(1, .pointer (some ⟨0, 0, none⟩)), (2, .pointer (some ⟨1, 0, none⟩)), (3, .pointer (some ⟨2, 0, none⟩)), (4, .pointer (some ⟨3, 0, none⟩)), (5, .pointer (some ⟨4, 0, none⟩)), (6, .pointer (some ⟨5, 0, none⟩)), (7, .pointer (some ⟨6, 0, none⟩)), (32, .bool (decide (r70 > r72))), (35, .agg ⟨[.int .i64 r66.1, .int .i64 r66.2]⟩), (36, .agg ⟨[.int .i64 r68.1, .int .i64 r68.2]⟩), (37, .int .i64 r75)]), heap := [.cells 30 [.int .i64 p0, .int .i64 p1, .int .i64 p2, .int .i64 p3], .cells 41 [.int .i64 0, .int .i64 0], .cells 41 [.int .i64 0, .int .i64 0], .cells 41 [.int .i64 v26, .int .i64 v27], .cells 41 [.int .i64 v28, .int .i64 v29], .cells 28 [.int .i64 r66.1, .int .i64 r66.2], .cells 28 [.int .i64 r68.1, .int .i64 r68.2]], own := [], upds := [] } : QSt)) (by decide) (qOf_call (g := 64) (args := [.agg ⟨[.int .i64 r66.1, .int .i64 r66.2]⟩, .agg ⟨[.int .i64 r68.1, .int .i64 r68.2]⟩]) (by kernel_rfl) lookC_hit) (by kernel_rfl) ?_
          refine QI.run (s1 := ({ act := (st 65 [(1, .pointer (some ⟨0, 0, none⟩)), (2, .pointer (some ⟨1, 0, none⟩)), (3, .pointer (some ⟨2, 0, none⟩)), (4, .pointer (some ⟨3, 0, none⟩)), (5, .pointer (some ⟨4, 0, none⟩)), (6, .pointer (some ⟨5, 0, none⟩)), (7, .pointer (some ⟨6, 0, none⟩)), (32, .bool (decide (r70 > r72))), (35, .agg ⟨[.int .i64 r66.1, .int .i64 r66.2]⟩), (36, .agg ⟨[.int .i64 r68.1, .int .i64 r68.2]⟩), (37, .int .i64 r75), (38, .int .i64 (w64 (2 * r75))), (39, .agg ⟨[.int .i64 r66.1, .int .i64 r66.2]⟩), (40, .agg ⟨[.int .i64 r66.1, .int .i64 r66.2]⟩)]), heap := [.cells 30 [.int .i64 p0, .int .i64 p1, .int .i64 p2, .int .i64 p3], .cells 41 [.int .i64 0, .int .i64 0], .cells 41 [.int .i64 0, .int .i64 0], .cells 41 [.int .i64 v26, .int .i64 v27], .cells 41 [.int .i64 v28, .int .i64 v29], .cells 28 [.int .i64 r66.1, .int .i64 r66.2], .cells 28 [.int .i64 r68.1, .int .i64 r68.2]], own := [], upds := [] } : QSt)) 3 (by kernel_rfl) (by kernel_rfl) ?_
          refine QI.op (q := { val := .int .i64 r77, new := [] }) (s1 := ({ act := (st 65 [(1, .pointer (some ⟨0, 0, none⟩)), (2, .pointer (some ⟨1, 0, none⟩)), (3, .pointer (some ⟨2, 0, none⟩)), (4, .pointer (some ⟨3, 0, none⟩)), (5, .pointer (some ⟨4, 0, none⟩)), (6, .pointer (some ⟨5, 0, none⟩)), (7, .pointer (some ⟨6, 0, none⟩)), (32, .bool (decide (r70 > r72))), (35, .agg ⟨[.int .i64 r66.1, .int .i64 r66.2]⟩), (36, .agg ⟨[.int .i64 r68.1, .int .i64 r68.2]⟩), (37, .int .i64 r75), (38, .int .i64 (w64 (2 * r75))), (39, .agg ⟨[.int .i64 r66.1, .int .i64 r66.2]⟩), (40, .agg ⟨[.int .i64 r66.1, .int .i64 r66.2]⟩), (41, .int .i64 r77)]), heap := [.cells 30 [.int .i64 p0, .int .i64 p1, .int .i64 p2, .int .i64 p3], .cells 41 [.int .i64 0, .int .i64 0], .cells 41 [.int .i64 0, .int .i64 0], .cells 41 [.int .i64 v26, .int .i64 v27], .cells 41 [.int .i64 v28, .int .i64 v29], .cells 28 [.int .i64 r66.1, .int .i64 r66.2], .cells 28 [.int .i64 r68.1, .int .i64 r68.2]], own := [], upds := [] } : QSt)) (by decide) (qOf_call (g := 64) (args := [.agg ⟨[.int .i64 r66.1, .int .i64 r66.2]⟩, .agg ⟨[.int .i64 r66.1, .int .i64 r66.2]⟩]) (by kernel_rfl) (lookC_skip (by intro _ ha _; have hq := h76; have hi := h78; clear hF; first | (exfalso; simp at ha; done) | ((try simp at ha); have hr := Option.some.inj (hq.symm.trans (Eq.trans (by first | rfl | (congr 1 <;> first | rfl | omega | simp_all)) hi)); subst hr; rfl)) lookC_hit)) (by kernel_rfl) ?_
          refine QI.run (s1 := ({ act := (st 65 [(1, .pointer (some ⟨0, 0, none⟩)), (2, .pointer (some ⟨1, 0, none⟩)), (3, .pointer (some ⟨2, 0, none⟩)), (4, .pointer (some ⟨3, 0, none⟩)), (5, .pointer (some ⟨4, 0, none⟩)), (6, .pointer (some ⟨5, 0, none⟩)), (7, .pointer (some ⟨6, 0, none⟩)), (32, .bool (decide (r70 > r72))), (35, .agg ⟨[.int .i64 r66.1, .int .i64 r66.2]⟩), (36, .agg ⟨[.int .i64 r68.1, .int .i64 r68.2]⟩), (37, .int .i64 r75), (38, .int .i64 (w64 (2 * r75))), (39, .agg ⟨[.int .i64 r66.1, .int .i64 r66.2]⟩), (40, .agg ⟨[.int .i64 r66.1, .int .i64 r66.2]⟩), (41, .int .i64 r77), (42, .int .i64 (w64 ((w64 (2 * r75)) + r77))), (43, .agg ⟨[.int .i64 r66.1, .int .i64 r66.2]⟩), (44, .agg ⟨[.int .i64 r66.1, .int .i64 r66.2]⟩)]), heap := [.cells 30 [.int .i64 p0, .int .i64 p1, .int .i64 p2, .int .i64 p3], .cells 41 [.int .i64 0, .int .i64 0], .cells 41 [.int .i64 0, .int .i64 0], .cells 41 [.int .i64 v26, .int .i64 v27], .cells 41 [.int .i64 v28, .int .i64 v29], .cells 28 [.int .i64 r66.1, .int .i64 r66.2], .cells 28 [.int .i64 r68.1, .int .i64 r68.2]], own := [], upds := [] } : QSt)) 3 (by kernel_rfl) (by kernel_rfl) ?_
          refine QI.op (q := { val := .int .i64 r79, new := [] }) (s1 := ({ act := (st 65 [(1, .pointer (some ⟨0, 0, none⟩)), (2, .pointer (some ⟨1, 0, none⟩)), (3, .pointer (some ⟨2, 0, none⟩)), (4, .pointer (some ⟨3, 0, none⟩)), (5, .pointer (some ⟨4, 0, none⟩)), (6, .pointer (some ⟨5, 0, none⟩)), (7, .pointer (some ⟨6, 0, none⟩)), (32, .bool (decide (r70 > r72))), (35, .agg ⟨[.int .i64 r66.1, .int .i64 r66.2]⟩), (36, .agg ⟨[.int .i64 r68.1, .int .i64 r68.2]⟩), (37, .int .i64 r75), (38, .int .i64 (w64 (2 * r75))), (39, .agg ⟨[.int .i64 r66.1, .int .i64 r66.2]⟩), (40, .agg ⟨[.int .i64 r66.1, .int .i64 r66.2]⟩), (41, .int .i64 r77), (42, .int .i64 (w64 ((w64 (2 * r75)) + r77))), (43, .agg ⟨[.int .i64 r66.1, .int .i64 r66.2]⟩), (44, .agg ⟨[.int .i64 r66.1, .int .i64 r66.2]⟩), (45, .int .i64 r79)]), heap := [.cells 30 [.int .i64 p0, .int .i64 p1, .int .i64 p2, .int .i64 p3], .cells 41 [.int .i64 0, .int .i64 0], .cells 41 [.int .i64 0, .int .i64 0], .cells 41 [.int .i64 v26, .int .i64 v27], .cells 41 [.int .i64 v28, .int .i64 v29], .cells 28 [.int .i64 r66.1, .int .i64 r66.2], .cells 28 [.int .i64 r68.1, .int .i64 r68.2]], own := [], upds := [] } : QSt)) (by decide) (qOf_call (g := 64) (args := [.agg ⟨[.int .i64 r66.1, .int .i64 r66.2]⟩, .agg ⟨[.int .i64 r66.1, .int .i64 r66.2]⟩]) (by kernel_rfl) (lookC_skip (by intro _ ha _; have hq := h76; have hi := h80; clear hF; first | (exfalso; simp at ha; done) | ((try simp at ha); have hr := Option.some.inj (hq.symm.trans (Eq.trans (by first | rfl | (congr 1 <;> first | rfl | omega | simp_all)) hi)); subst hr; rfl)) (lookC_skip (by intro _ ha _; have hq := h78; have hi := h80; clear hF; first | (exfalso; simp at ha; done) | ((try simp at ha); have hr := Option.some.inj (hq.symm.trans (Eq.trans (by first | rfl | (congr 1 <;> first | rfl | omega | simp_all)) hi)); subst hr; rfl)) lookC_hit))) (by kernel_rfl) ?_
          refine QI.run (s1 := ({ act := (st 65 [(1, .pointer (some ⟨0, 0, none⟩)), (2, .pointer (some ⟨1, 0, none⟩)), (3, .pointer (some ⟨2, 0, none⟩)), (4, .pointer (some ⟨3, 0, none⟩)), (5, .pointer (some ⟨4, 0, none⟩)), (6, .pointer (some ⟨5, 0, none⟩)), (7, .pointer (some ⟨6, 0, none⟩)), (32, .bool (decide (r70 > r72))), (35, .agg ⟨[.int .i64 r66.1, .int .i64 r66.2]⟩), (36, .agg ⟨[.int .i64 r68.1, .int .i64 r68.2]⟩), (37, .int .i64 r75), (38, .int .i64 (w64 (2 * r75))), (39, .agg ⟨[.int .i64 r66.1, .int .i64 r66.2]⟩), (40, .agg ⟨[.int .i64 r66.1, .int .i64 r66.2]⟩), (41, .int .i64 r77), (42, .int .i64 (w64 ((w64 (2 * r75)) + r77))), (43, .agg ⟨[.int .i64 r66.1, .int .i64 r66.2]⟩), (44, .agg ⟨[.int .i64 r66.1, .int .i64 r66.2]⟩), (45, .int .i64 r79), (46, .int .i64 (w64 (2 * r79)))]), heap := [.cells 30 [.int .i64 p0, .int .i64 p1, .int .i64 p2, .int .i64 p3], .cells 41 [.int .i64 0, .int .i64 0], .cells 41 [.int .i64 0, .int .i64 0], .cells 41 [.int .i64 v26, .int .i64 v27], .cells 41 [.int .i64 v28, .int .i64 v29], .cells 28 [.int .i64 r66.1, .int .i64 r66.2], .cells 28 [.int .i64 r68.1, .int .i64 r68.2]], own := [], upds := [] } : QSt)) 1 (by kernel_rfl) (by kernel_rfl) ?_
          exact QI.done (by kernel_rfl)
        · refine SI.op (q := { val := .int .i64 r81, new := [] }) (a2 := (st 65 [(1, .pointer (some ⟨0, 0, none⟩)), (2, .pointer (some ⟨1, 0, none⟩)), (3, .pointer (some ⟨2, 0, none⟩)), (4, .pointer (some ⟨3, 0, none⟩)), (5, .pointer (some ⟨4, 0, none⟩)), (6, .pointer (some ⟨5, 0, none⟩)), (7, .pointer (some ⟨6, 0, none⟩)), (32, .bool (decide (r70 > r72))), (35, .agg ⟨[.int .i64 r66.1, .int .i64 r66.2]⟩), (36, .agg ⟨[.int .i64 r68.1, .int .i64 r68.2]⟩), (37, .int .i64 r75), (38, .int .i64 (w64 (2 * r75))), (39, .agg ⟨[.int .i64 r66.1, .int .i64 r66.2]⟩), (40, .agg ⟨[.int .i64 r66.1, .int .i64 r66.2]⟩), (41, .int .i64 r77), (42, .int .i64 (w64 ((w64 (2 * r75)) + r77))), (43, .agg ⟨[.int .i64 r66.1, .int .i64 r66.2]⟩), (44, .agg ⟨[.int .i64 r66.1, .int .i64 r66.2]⟩), (45, .int .i64 r79), (46, .int .i64 (w64 (2 * r79))), (47, .int .i64 r81)])) (h2 := [.cells 30 [.int .i64 p0, .int .i64 p1, .int .i64 p2, .int .i64 p3], .cells 41 [.int .i64 0, .int .i64 0], .cells 41 [.int .i64 0, .int .i64 0], .cells 41 [.int .i64 v26, .int .i64 v27], .cells 41 [.int .i64 v28, .int .i64 v29], .cells 28 [.int .i64 r66.1, .int .i64 r66.2], .cells 28 [.int .i64 r68.1, .int .i64 r68.2]]) (by kernel_rfl) (qOf_call (g := 74) (args := [.int .i64 (w64 ((w64 (2 * r75)) + r77)), .int .i64 (w64 (2 * r79))]) (by kernel_rfl) (lookC_skip (fun hg => absurd (show (64 : Nat) = 74 from hg) (by decide)) (lookC_skip (fun hg => absurd (show (64 : Nat) = 74 from hg) (by decide)) (lookC_skip (fun hg => absurd (show (64 : Nat) = 74 from hg) (by decide)) lookC_hit)))) (by kernel_rfl) (by kernel_rfl) ?_
          refine SI.run (a2 := (st 65 [(1, .pointer (some ⟨0, 0, none⟩)), (2, .pointer (some ⟨1, 0, none⟩)), (3, .pointer (some ⟨2, 0, none⟩)), (4, .pointer (some ⟨3, 0, none⟩)), (5, .pointer (some ⟨4, 0, none⟩)), (6, .pointer (some ⟨5, 0, none⟩)), (7, .pointer (some ⟨6, 0, none⟩)), (8, .int .i64 r81), (32, .bool (decide (r70 > r72))), (35, .agg ⟨[.int .i64 r66.1, .int .i64 r66.2]⟩), (36, .agg ⟨[.int .i64 r68.1, .int .i64 r68.2]⟩), (37, .int .i64 r75), (38, .int .i64 (w64 (2 * r75))), (39, .agg ⟨[.int .i64 r66.1, .int .i64 r66.2]⟩), (40, .agg ⟨[.int .i64 r66.1, .int .i64 r66.2]⟩), (41, .int .i64 r77), (42, .int .i64 (w64 ((w64 (2 * r75)) + r77))), (43, .agg ⟨[.int .i64 r66.1, .int .i64 r66.2]⟩), (44, .agg ⟨[.int .i64 r66.1, .int .i64 r66.2]⟩), (45, .int .i64 r79), (46, .int .i64 (w64 (2 * r79))), (47, .int .i64 r81)])) (h2 := [.cells 30 [.int .i64 p0, .int .i64 p1, .int .i64 p2, .int .i64 p3], .cells 41 [.int .i64 0, .int .i64 0], .cells 41 [.int .i64 0, .int .i64 0], .cells 41 [.int .i64 v26, .int .i64 v27], .cells 41 [.int .i64 v28, .int .i64 v29], .cells 28 [.int .i64 r66.1, .int .i64 r66.2], .cells 28 [.int .i64 r68.1, .int .i64 r68.2]]) 1 (by kernel_rfl) ?_
          exact SI.done (by kernel_rfl)
        refine TS.region' (id := 7) (b := false) (ops := c62.s2.s2.s1.bd.bd.s2.bd.s2.s2.s2.rops) (by kernel_rfl) rfl ?_
        refine TI.run 16 [1, 2, 3, 4, 5] [0, 1, 2, 3, 4] (a2 := (st 65 [(1, .pointer (some ⟨0, 0, none⟩)), (2, .pointer (some ⟨1, 0, none⟩)), (3, .pointer (some ⟨2, 0, none⟩)), (4, .pointer (some ⟨3, 0, none⟩)), (5, .pointer (some ⟨4, 0, none⟩))])) (h2 := [.cells 30 [.int .i64 p0, .int .i64 p1, .int .i64 p2, .int .i64 p3], .cells 41 [.int .i64 0, .int .i64 0], .cells 41 [.int .i64 0, .int .i64 0], .cells 41 [.int .i64 v26, .int .i64 v27], .cells 41 [.int .i64 (w64 (v28 - (w64 (r81 * v26)))), .int .i64 (w64 (v29 - (w64 (r81 * v27))))], .dead, .dead]) (by kernel_rfl) ?_
        refine TI.done (by kernel_rfl) ?_
        refine NX.bk ?_
        exact Rd.again (a2 := (st 65 [(1, .pointer (some ⟨0, 0, none⟩)), (2, .pointer (some ⟨1, 0, none⟩)), (3, .pointer (some ⟨2, 0, none⟩)), (4, .pointer (some ⟨3, 0, none⟩)), (5, .pointer (some ⟨4, 0, none⟩))])) (h2 := [.cells 30 [.int .i64 p0, .int .i64 p1, .int .i64 p2, .int .i64 p3], .cells 41 [.int .i64 0, .int .i64 0], .cells 41 [.int .i64 0, .int .i64 0], .cells 41 [.int .i64 v26, .int .i64 v27], .cells 41 [.int .i64 (w64 (v28 - (w64 (r81 * v26)))), .int .i64 (w64 (v29 - (w64 (r81 * v27))))]]) (Wk.anew (base := 0) (L := 0) (f := [0, 1, 2, 3, 4]) (by decide) (by decide) (Nat.le_of_ble_eq_true rfl) rfl (.cons (At.blk (by kernel_rfl) (RnB.lit (.cons (.flat (by kernel_rfl)) (.cons (.flat (by kernel_rfl)) (.cons (.flat (by kernel_rfl)) (.cons (.flat (by kernel_rfl)) .nil)))))) (.cons (At.blk (by kernel_rfl) (RnB.lit (.cons (.flat (by kernel_rfl)) (.cons (.flat (by kernel_rfl)) .nil)))) (.cons (At.blk (by kernel_rfl) (RnB.lit (.cons (.flat (by kernel_rfl)) (.cons (.flat (by kernel_rfl)) .nil)))) (.cons (At.blk (by kernel_rfl) (RnB.lit (.cons (.flat (by kernel_rfl)) (.cons (.flat (by kernel_rfl)) .nil)))) (.cons (At.blk (by kernel_rfl) (RnB.lit (.cons (.flat (by kernel_rfl)) (.cons (.flat (by kernel_rfl)) .nil)))) (.nil _)))))) (LRn.stx [1, 2, 3, 4, 5] [.pointer (some ⟨0, 0, none⟩), .pointer (some ⟨1, 0, none⟩), .pointer (some ⟨2, 0, none⟩), .pointer (some ⟨3, 0, none⟩), .pointer (some ⟨4, 0, none⟩)] [.pointer (some ⟨0, 0, none⟩), .pointer (some ⟨1, 0, none⟩), .pointer (some ⟨2, 0, none⟩), .pointer (some ⟨3, 0, none⟩), .pointer (some ⟨4, 0, none⟩)] (.cons (Rn.ptr _ _ _ (Nat.le_of_ble_eq_true rfl) rfl) (.cons (Rn.ptr _ _ _ (Nat.le_of_ble_eq_true rfl) rfl) (.cons (Rn.ptr _ _ _ (Nat.le_of_ble_eq_true rfl) rfl) (.cons (Rn.ptr _ _ _ (Nat.le_of_ble_eq_true rfl) rfl) (.cons (Rn.ptr _ _ _ (Nat.le_of_ble_eq_true rfl) rfl) .nil))))) (by kernel_rfl) (by kernel_rfl) rfl) rfl rfl) (ih v26 v27 (w64 (v28 - (w64 (r81 * v26)))) (w64 (v29 - (w64 (r81 * v27)))) _ hF)
    | false =>
      replace hF := of_neg hF rfl
      refine TS.condF' (o := (.tmp 19)) (x := c62.s2.s2.s1.bd.bd.s1.s2.th) (y := c62.s2.s2.s1.bd.bd.s1.s2.el) (by kernel_rfl) (by kernel_rfl) ?_
      refine TS.exit' (id := 0) (by kernel_rfl) ?_
      refine NX.sqX ?_
      have hF := Option.some.inj hF
      subst hF
      exact Rd.out (e := .exit 0) (by intro h; cases h) (And.intro rfl (Wk.anew (base := 0) (L := 0) (f := [1, 2, 3, 4]) (by decide) (by decide) (Nat.le_of_ble_eq_true rfl) rfl (.cons (At.blk (by kernel_rfl) (RnB.lit (.cons (.flat (by kernel_rfl)) (.cons (.flat (by kernel_rfl)) .nil)))) (.cons (At.blk (by kernel_rfl) (RnB.lit (.cons (.flat (by kernel_rfl)) (.cons (.flat (by kernel_rfl)) .nil)))) (.cons (At.blk (by kernel_rfl) (RnB.lit (.cons (.flat (by kernel_rfl)) (.cons (.flat (by kernel_rfl)) .nil)))) (.cons (At.blk (by kernel_rfl) (RnB.lit (.cons (.flat (by kernel_rfl)) (.cons (.flat (by kernel_rfl)) .nil)))) (.nil _))))) (LRn.stx [2, 3, 4, 5] [.pointer (some ⟨0, 0, none⟩), .pointer (some ⟨1, 0, none⟩), .pointer (some ⟨2, 0, none⟩), .pointer (some ⟨3, 0, none⟩)] [.pointer (some ⟨1, 0, none⟩), .pointer (some ⟨2, 0, none⟩), .pointer (some ⟨3, 0, none⟩), .pointer (some ⟨4, 0, none⟩)] (.cons (Rn.ptr _ _ _ (Nat.le_of_ble_eq_true rfl) rfl) (.cons (Rn.ptr _ _ _ (Nat.le_of_ble_eq_true rfl) rfl) (.cons (Rn.ptr _ _ _ (Nat.le_of_ble_eq_true rfl) rfl) (.cons (Rn.ptr _ _ _ (Nat.le_of_ble_eq_true rfl) rfl) .nil)))) (by kernel_rfl) (by kernel_rfl) rfl) rfl rfl))
  cases r63 with
  | true =>
    replace hm83 := of_pos hm83 rfl
    have hm83 := Option.some.inj hm83
    subst hm83
    have hT : ∀ e ∈ ([⟨57, [.agg ⟨[.int .i64 p0, .int .i64 p1, .int .i64 p2, .int .i64 p3]⟩, .agg ⟨[.int .i64 v26, .int .i64 v27]⟩], [.cells 30 [.int .i64 p0, .int .i64 p1, .int .i64 p2, .int .i64 p3], .cells 41 [.int .i64 0, .int .i64 0], .cells 41 [.int .i64 0, .int .i64 0], .cells 41 [.int .i64 v26, .int .i64 v27], .cells 41 [.int .i64 v28, .int .i64 v29]], .agg ⟨[.int .i64 r59.1, .int .i64 r59.2]⟩, []⟩, ⟨57, [.agg ⟨[.int .i64 p0, .int .i64 p1, .int .i64 p2, .int .i64 p3]⟩, .agg ⟨[.int .i64 v28, .int .i64 v29]⟩], [.cells 30 [.int .i64 p0, .int .i64 p1, .int .i64 p2, .int .i64 p3], .cells 41 [.int .i64 0, .int .i64 0], .cells 41 [.int .i64 0, .int .i64 0], .cells 41 [.int .i64 v26, .int .i64 v27], .cells 41 [.int .i64 v28, .int .i64 v29]], .agg ⟨[.int .i64 r61.1, .int .i64 r61.2]⟩, []⟩, ⟨51, [.agg ⟨[.int .i64 r59.1, .int .i64 r59.2, .int .i64 r61.1, .int .i64 r61.2]⟩], [.cells 30 [.int .i64 p0, .int .i64 p1, .int .i64 p2, .int .i64 p3], .cells 41 [.int .i64 0, .int .i64 0], .cells 41 [.int .i64 0, .int .i64 0], .cells 41 [.int .i64 v26, .int .i64 v27], .cells 41 [.int .i64 v28, .int .i64 v29]], .bool true, []⟩] : List Entry), PureSim Try.prog e.g e.args e.h e.v e.new := by
      intro e he
      simp only [List.mem_cons, List.not_mem_nil, or_false] at he
      rcases he with rfl | rfl | rfl
      · exact (PureSim.any (C57 p0 p1 p2 p3 v26 v27 r59 h60) (flatL (by kernel_rfl)) (by kernel_rfl) [.cells 30 [.int .i64 p0, .int .i64 p1, .int .i64 p2, .int .i64 p3], .cells 41 [.int .i64 0, .int .i64 0], .cells 41 [.int .i64 0, .int .i64 0], .cells 41 [.int .i64 v26, .int .i64 v27], .cells 41 [.int .i64 v28, .int .i64 v29]])
      · exact (PureSim.any (C57 p0 p1 p2 p3 v28 v29 r61 h62) (flatL (by kernel_rfl)) (by kernel_rfl) [.cells 30 [.int .i64 p0, .int .i64 p1, .int .i64 p2, .int .i64 p3], .cells 41 [.int .i64 0, .int .i64 0], .cells 41 [.int .i64 0, .int .i64 0], .cells 41 [.int .i64 v26, .int .i64 v27], .cells 41 [.int .i64 v28, .int .i64 v29]])
      · exact (PureSim.any (C51 r59.1 r59.2 r61.1 r61.2 true h64) (flatL (by kernel_rfl)) (by kernel_rfl) [.cells 30 [.int .i64 p0, .int .i64 p1, .int .i64 p2, .int .i64 p3], .cells 41 [.int .i64 0, .int .i64 0], .cells 41 [.int .i64 0, .int .i64 0], .cells 41 [.int .i64 v26, .int .i64 v27], .cells 41 [.int .i64 v28, .int .i64 v29]])
    refine TS.draw' (id := 2) (b := true) (ops := c62.s2.s2.s1.bd.bd.s1.s1.rops) (fin := ({ act := (st 65 [(1, .pointer (some ⟨0, 0, none⟩)), (2, .pointer (some ⟨1, 0, none⟩)), (3, .pointer (some ⟨2, 0, none⟩)), (4, .pointer (some ⟨3, 0, none⟩)), (5, .pointer (some ⟨4, 0, none⟩)), (11, .agg ⟨[.int .i64 p0, .int .i64 p1, .int .i64 p2, .int .i64 p3]⟩), (12, .agg ⟨[.int .i64 v26, .int .i64 v27]⟩), (13, .agg ⟨[.int .i64 r59.1, .int .i64 r59.2]⟩), (14, .agg ⟨[.int .i64 p0, .int .i64 p1, .int .i64 p2, .int .i64 p3]⟩), (15, .agg ⟨[.int .i64 v28, .int .i64 v29]⟩)]), heap := [.cells 30 [.int .i64 p0, .int .i64 p1, .int .i64 p2, .int .i64 p3], .cells 41 [.int .i64 0, .int .i64 0], .cells 41 [.int .i64 0, .int .i64 0], .cells 41 [.int .i64 v26, .int .i64 v27], .cells 41 [.int .i64 v28, .int .i64 v29]], own := [], upds := [] } : QSt)) (fin2 := ({ act := (st 65 [(1, .pointer (some ⟨0, 0, none⟩)), (2, .pointer (some ⟨1, 0, none⟩)), (3, .pointer (some ⟨2, 0, none⟩)), (4, .pointer (some ⟨3, 0, none⟩)), (5, .pointer (some ⟨4, 0, none⟩)), (11, .agg ⟨[.int .i64 p0, .int .i64 p1, .int .i64 p2, .int .i64 p3]⟩), (12, .agg ⟨[.int .i64 v26, .int .i64 v27]⟩), (13, .agg ⟨[.int .i64 r59.1, .int .i64 r59.2]⟩), (14, .agg ⟨[.int .i64 p0, .int .i64 p1, .int .i64 p2, .int .i64 p3]⟩), (15, .agg ⟨[.int .i64 v28, .int .i64 v29]⟩)]), heap := [.cells 30 [.int .i64 p0, .int .i64 p1, .int .i64 p2, .int .i64 p3], .cells 41 [.int .i64 0, .int .i64 0], .cells 41 [.int .i64 0, .int .i64 0], .cells 41 [.int .i64 v26, .int .i64 v27], .cells 41 [.int .i64 v28, .int .i64 v29]], own := [], upds := [] } : QSt)) (a1 := (st 65 [(1, .pointer (some ⟨0, 0, none⟩)), (2, .pointer (some ⟨1, 0, none⟩)), (3, .pointer (some ⟨2, 0, none⟩)), (4, .pointer (some ⟨3, 0, none⟩)), (5, .pointer (some ⟨4, 0, none⟩)), (11, .agg ⟨[.int .i64 p0, .int .i64 p1, .int .i64 p2, .int .i64 p3]⟩), (12, .agg ⟨[.int .i64 v26, .int .i64 v27]⟩), (13, .agg ⟨[.int .i64 r59.1, .int .i64 r59.2]⟩), (14, .agg ⟨[.int .i64 p0, .int .i64 p1, .int .i64 p2, .int .i64 p3]⟩), (15, .agg ⟨[.int .i64 v28, .int .i64 v29]⟩), (16, .agg ⟨[.int .i64 r61.1, .int .i64 r61.2]⟩), (17, .agg ⟨[.int .i64 r59.1, .int .i64 r59.2, .int .i64 r61.1, .int .i64 r61.2]⟩), (18, .bool true), (19, .bool false)])) (h1 := [.cells 30 [.int .i64 p0, .int .i64 p1, .int .i64 p2, .int .i64 p3], .cells 41 [.int .i64 0, .int .i64 0], .cells 41 [.int .i64 0, .int .i64 0], .cells 41 [.int .i64 v26, .int .i64 v27], .cells 41 [.int .i64 v28, .int .i64 v29]]) (a2 := (st 65 [(1, .pointer (some ⟨0, 0, none⟩)), (2, .pointer (some ⟨1, 0, none⟩)), (3, .pointer (some ⟨2, 0, none⟩)), (4, .pointer (some ⟨3, 0, none⟩)), (5, .pointer (some ⟨4, 0, none⟩)), (19, .bool false)])) (h2 := [.cells 30 [.int .i64 p0, .int .i64 p1, .int .i64 p2, .int .i64 p3], .cells 41 [.int .i64 0, .int .i64 0], .cells 41 [.int .i64 0, .int .i64 0], .cells 41 [.int .i64 v26, .int .i64 v27], .cells 41 [.int .i64 v28, .int .i64 v29]]) [⟨57, [.agg ⟨[.int .i64 p0, .int .i64 p1, .int .i64 p2, .int .i64 p3]⟩, .agg ⟨[.int .i64 v26, .int .i64 v27]⟩], [.cells 30 [.int .i64 p0, .int .i64 p1, .int .i64 p2, .int .i64 p3], .cells 41 [.int .i64 0, .int .i64 0], .cells 41 [.int .i64 0, .int .i64 0], .cells 41 [.int .i64 v26, .int .i64 v27], .cells 41 [.int .i64 v28, .int .i64 v29]], .agg ⟨[.int .i64 r59.1, .int .i64 r59.2]⟩, []⟩, ⟨57, [.agg ⟨[.int .i64 p0, .int .i64 p1, .int .i64 p2, .int .i64 p3]⟩, .agg ⟨[.int .i64 v28, .int .i64 v29]⟩], [.cells 30 [.int .i64 p0, .int .i64 p1, .int .i64 p2, .int .i64 p3], .cells 41 [.int .i64 0, .int .i64 0], .cells 41 [.int .i64 0, .int .i64 0], .cells 41 [.int .i64 v26, .int .i64 v27], .cells 41 [.int .i64 v28, .int .i64 v29]], .agg ⟨[.int .i64 r61.1, .int .i64 r61.2]⟩, []⟩, ⟨51, [.agg ⟨[.int .i64 r59.1, .int .i64 r59.2, .int .i64 r61.1, .int .i64 r61.2]⟩], [.cells 30 [.int .i64 p0, .int .i64 p1, .int .i64 p2, .int .i64 p3], .cells 41 [.int .i64 0, .int .i64 0], .cells 41 [.int .i64 0, .int .i64 0], .cells 41 [.int .i64 v26, .int .i64 v27], .cells 41 [.int .i64 v28, .int .i64 v29]], .bool true, []⟩] hT mixed (by kernel_rfl) rfl 5 (by kernel_rfl) [] ?_ rfl (.inl ⟨rfl, rfl⟩) ?_ [1, 2, 3, 4, 5, 19] [0, 1, 2, 3, 4] (by kernel_rfl) ?_
    · refine QI.run (s1 := ({ act := (st 65 [(1, .pointer (some ⟨0, 0, none⟩)), (2, .pointer (some ⟨1, 0, none⟩)), (3, .pointer (some ⟨2, 0, none⟩)), (4, .pointer (some ⟨3, 0, none⟩)), (5, .pointer (some ⟨4, 0, none⟩)), (11, .agg ⟨[.int .i64 p0, .int .i64 p1, .int .i64 p2, .int .i64 p3]⟩), (12, .agg ⟨[.int .i64 v26, .int .i64 v27]⟩)]), heap := [.cells 30 [.int .i64 p0, .int .i64 p1, .int .i64 p2, .int .i64 p3], .cells 41 [.int .i64 0, .int .i64 0], .cells 41 [.int .i64 0, .int .i64 0], .cells 41 [.int .i64 v26, .int .i64 v27], .cells 41 [.int .i64 v28, .int .i64 v29]], own := [], upds := [] } : QSt)) 2 (by kernel_rfl) (by kernel_rfl) ?_
      refine QI.op (q := { val := .agg ⟨[.int .i64 r59.1, .int .i64 r59.2]⟩, new := [] }) (s1 := ({ act := (st 65 [(1, .pointer (some ⟨0, 0, none⟩)), (2, .pointer (some ⟨1, 0, none⟩)), (3, .pointer (some ⟨2, 0, none⟩)), (4, .pointer (some ⟨3, 0, none⟩)), (5, .pointer (some ⟨4, 0, none⟩)), (11, .agg ⟨[.int .i64 p0, .int .i64 p1, .int .i64 p2, .int .i64 p3]⟩), (12, .agg ⟨[.int .i64 v26, .int .i64 v27]⟩), (13, .agg ⟨[.int .i64 r59.1, .int .i64 r59.2]⟩)]), heap := [.cells 30 [.int .i64 p0, .int .i64 p1, .int .i64 p2, .int .i64 p3], .cells 41 [.int .i64 0, .int .i64 0], .cells 41 [.int .i64 0, .int .i64 0], .cells 41 [.int .i64 v26, .int .i64 v27], .cells 41 [.int .i64 v28, .int .i64 v29]], own := [], upds := [] } : QSt)) (by decide) (qOf_call (g := 57) (args := [.agg ⟨[.int .i64 p0, .int .i64 p1, .int .i64 p2, .int .i64 p3]⟩, .agg ⟨[.int .i64 v26, .int .i64 v27]⟩]) (by kernel_rfl) lookC_hit) (by kernel_rfl) ?_
      refine QI.run (s1 := ({ act := (st 65 [(1, .pointer (some ⟨0, 0, none⟩)), (2, .pointer (some ⟨1, 0, none⟩)), (3, .pointer (some ⟨2, 0, none⟩)), (4, .pointer (some ⟨3, 0, none⟩)), (5, .pointer (some ⟨4, 0, none⟩)), (11, .agg ⟨[.int .i64 p0, .int .i64 p1, .int .i64 p2, .int .i64 p3]⟩), (12, .agg ⟨[.int .i64 v26, .int .i64 v27]⟩), (13, .agg ⟨[.int .i64 r59.1, .int .i64 r59.2]⟩), (14, .agg ⟨[.int .i64 p0, .int .i64 p1, .int .i64 p2, .int .i64 p3]⟩), (15, .agg ⟨[.int .i64 v28, .int .i64 v29]⟩)]), heap := [.cells 30 [.int .i64 p0, .int .i64 p1, .int .i64 p2, .int .i64 p3], .cells 41 [.int .i64 0, .int .i64 0], .cells 41 [.int .i64 0, .int .i64 0], .cells 41 [.int .i64 v26, .int .i64 v27], .cells 41 [.int .i64 v28, .int .i64 v29]], own := [], upds := [] } : QSt)) 2 (by kernel_rfl) (by kernel_rfl) ?_
      exact QI.done (by kernel_rfl)
    · refine SI.op (q := { val := .agg ⟨[.int .i64 r61.1, .int .i64 r61.2]⟩, new := [] }) (a2 := (st 65 [(1, .pointer (some ⟨0, 0, none⟩)), (2, .pointer (some ⟨1, 0, none⟩)), (3, .pointer (some ⟨2, 0, none⟩)), (4, .pointer (some ⟨3, 0, none⟩)), (5, .pointer (some ⟨4, 0, none⟩)), (11, .agg ⟨[.int .i64 p0, .int .i64 p1, .int .i64 p2, .int .i64 p3]⟩), (12, .agg ⟨[.int .i64 v26, .int .i64 v27]⟩), (13, .agg ⟨[.int .i64 r59.1, .int .i64 r59.2]⟩), (14, .agg ⟨[.int .i64 p0, .int .i64 p1, .int .i64 p2, .int .i64 p3]⟩), (15, .agg ⟨[.int .i64 v28, .int .i64 v29]⟩), (16, .agg ⟨[.int .i64 r61.1, .int .i64 r61.2]⟩)])) (h2 := [.cells 30 [.int .i64 p0, .int .i64 p1, .int .i64 p2, .int .i64 p3], .cells 41 [.int .i64 0, .int .i64 0], .cells 41 [.int .i64 0, .int .i64 0], .cells 41 [.int .i64 v26, .int .i64 v27], .cells 41 [.int .i64 v28, .int .i64 v29]]) (by kernel_rfl) (qOf_call (g := 57) (args := [.agg ⟨[.int .i64 p0, .int .i64 p1, .int .i64 p2, .int .i64 p3]⟩, .agg ⟨[.int .i64 v28, .int .i64 v29]⟩]) (by kernel_rfl) (lookC_skip (by intro _ ha _; have hq := h60; have hi := h62; clear hF; first | (exfalso; simp at ha; done) | ((try simp at ha); have hr := Option.some.inj (hq.symm.trans (Eq.trans (by first | rfl | (congr 1 <;> first | rfl | omega | simp_all)) hi)); subst hr; rfl)) lookC_hit)) (by kernel_rfl) (by kernel_rfl) ?_
      refine SI.run (a2 := (st 65 [(1, .pointer (some ⟨0, 0, none⟩)), (2, .pointer (some ⟨1, 0, none⟩)), (3, .pointer (some ⟨2, 0, none⟩)), (4, .pointer (some ⟨3, 0, none⟩)), (5, .pointer (some ⟨4, 0, none⟩)), (11, .agg ⟨[.int .i64 p0, .int .i64 p1, .int .i64 p2, .int .i64 p3]⟩), (12, .agg ⟨[.int .i64 v26, .int .i64 v27]⟩), (13, .agg ⟨[.int .i64 r59.1, .int .i64 r59.2]⟩), (14, .agg ⟨[.int .i64 p0, .int .i64 p1, .int .i64 p2, .int .i64 p3]⟩), (15, .agg ⟨[.int .i64 v28, .int .i64 v29]⟩), (16, .agg ⟨[.int .i64 r61.1, .int .i64 r61.2]⟩), (17, .agg ⟨[.int .i64 r59.1, .int .i64 r59.2, .int .i64 r61.1, .int .i64 r61.2]⟩)])) (h2 := [.cells 30 [.int .i64 p0, .int .i64 p1, .int .i64 p2, .int .i64 p3], .cells 41 [.int .i64 0, .int .i64 0], .cells 41 [.int .i64 0, .int .i64 0], .cells 41 [.int .i64 v26, .int .i64 v27], .cells 41 [.int .i64 v28, .int .i64 v29]]) 1 (by kernel_rfl) ?_
      refine SI.op (q := { val := .bool true, new := [] }) (a2 := (st 65 [(1, .pointer (some ⟨0, 0, none⟩)), (2, .pointer (some ⟨1, 0, none⟩)), (3, .pointer (some ⟨2, 0, none⟩)), (4, .pointer (some ⟨3, 0, none⟩)), (5, .pointer (some ⟨4, 0, none⟩)), (11, .agg ⟨[.int .i64 p0, .int .i64 p1, .int .i64 p2, .int .i64 p3]⟩), (12, .agg ⟨[.int .i64 v26, .int .i64 v27]⟩), (13, .agg ⟨[.int .i64 r59.1, .int .i64 r59.2]⟩), (14, .agg ⟨[.int .i64 p0, .int .i64 p1, .int .i64 p2, .int .i64 p3]⟩), (15, .agg ⟨[.int .i64 v28, .int .i64 v29]⟩), (16, .agg ⟨[.int .i64 r61.1, .int .i64 r61.2]⟩), (17, .agg ⟨[.int .i64 r59.1, .int .i64 r59.2, .int .i64 r61.1, .int .i64 r61.2]⟩), (18, .bool true)])) (h2 := [.cells 30 [.int .i64 p0, .int .i64 p1, .int .i64 p2, .int .i64 p3], .cells 41 [.int .i64 0, .int .i64 0], .cells 41 [.int .i64 0, .int .i64 0], .cells 41 [.int .i64 v26, .int .i64 v27], .cells 41 [.int .i64 v28, .int .i64 v29]]) (by kernel_rfl) (qOf_call (g := 51) (args := [.agg ⟨[.int .i64 r59.1, .int .i64 r59.2, .int .i64 r61.1, .int .i64 r61.2]⟩]) (by kernel_rfl) (lookC_skip (fun hg => absurd (show (57 : Nat) = 51 from hg) (by decide)) (lookC_skip (fun hg => absurd (show (57 : Nat) = 51 from hg) (by decide)) lookC_hit))) (by kernel_rfl) (by kernel_rfl) ?_
      refine SI.run (a2 := (st 65 [(1, .pointer (some ⟨0, 0, none⟩)), (2, .pointer (some ⟨1, 0, none⟩)), (3, .pointer (some ⟨2, 0, none⟩)), (4, .pointer (some ⟨3, 0, none⟩)), (5, .pointer (some ⟨4, 0, none⟩)), (11, .agg ⟨[.int .i64 p0, .int .i64 p1, .int .i64 p2, .int .i64 p3]⟩), (12, .agg ⟨[.int .i64 v26, .int .i64 v27]⟩), (13, .agg ⟨[.int .i64 r59.1, .int .i64 r59.2]⟩), (14, .agg ⟨[.int .i64 p0, .int .i64 p1, .int .i64 p2, .int .i64 p3]⟩), (15, .agg ⟨[.int .i64 v28, .int .i64 v29]⟩), (16, .agg ⟨[.int .i64 r61.1, .int .i64 r61.2]⟩), (17, .agg ⟨[.int .i64 r59.1, .int .i64 r59.2, .int .i64 r61.1, .int .i64 r61.2]⟩), (18, .bool true), (19, .bool false)])) (h2 := [.cells 30 [.int .i64 p0, .int .i64 p1, .int .i64 p2, .int .i64 p3], .cells 41 [.int .i64 0, .int .i64 0], .cells 41 [.int .i64 0, .int .i64 0], .cells 41 [.int .i64 v26, .int .i64 v27], .cells 41 [.int .i64 v28, .int .i64 v29]]) 1 (by kernel_rfl) ?_
      exact SI.done (by kernel_rfl)
    exact hK
  | false =>
    replace hm83 := of_neg hm83 rfl
    have hm83 := Option.some.inj hm83
    subst hm83
    have hT : ∀ e ∈ ([⟨57, [.agg ⟨[.int .i64 p0, .int .i64 p1, .int .i64 p2, .int .i64 p3]⟩, .agg ⟨[.int .i64 v26, .int .i64 v27]⟩], [.cells 30 [.int .i64 p0, .int .i64 p1, .int .i64 p2, .int .i64 p3], .cells 41 [.int .i64 0, .int .i64 0], .cells 41 [.int .i64 0, .int .i64 0], .cells 41 [.int .i64 v26, .int .i64 v27], .cells 41 [.int .i64 v28, .int .i64 v29]], .agg ⟨[.int .i64 r59.1, .int .i64 r59.2]⟩, []⟩, ⟨57, [.agg ⟨[.int .i64 p0, .int .i64 p1, .int .i64 p2, .int .i64 p3]⟩, .agg ⟨[.int .i64 v28, .int .i64 v29]⟩], [.cells 30 [.int .i64 p0, .int .i64 p1, .int .i64 p2, .int .i64 p3], .cells 41 [.int .i64 0, .int .i64 0], .cells 41 [.int .i64 0, .int .i64 0], .cells 41 [.int .i64 v26, .int .i64 v27], .cells 41 [.int .i64 v28, .int .i64 v29]], .agg ⟨[.int .i64 r61.1, .int .i64 r61.2]⟩, []⟩, ⟨51, [.agg ⟨[.int .i64 r59.1, .int .i64 r59.2, .int .i64 r61.1, .int .i64 r61.2]⟩], [.cells 30 [.int .i64 p0, .int .i64 p1, .int .i64 p2, .int .i64 p3], .cells 41 [.int .i64 0, .int .i64 0], .cells 41 [.int .i64 0, .int .i64 0], .cells 41 [.int .i64 v26, .int .i64 v27], .cells 41 [.int .i64 v28, .int .i64 v29]], .bool false, []⟩] : List Entry), PureSim Try.prog e.g e.args e.h e.v e.new := by
      intro e he
      simp only [List.mem_cons, List.not_mem_nil, or_false] at he
      rcases he with rfl | rfl | rfl
      · exact (PureSim.any (C57 p0 p1 p2 p3 v26 v27 r59 h60) (flatL (by kernel_rfl)) (by kernel_rfl) [.cells 30 [.int .i64 p0, .int .i64 p1, .int .i64 p2, .int .i64 p3], .cells 41 [.int .i64 0, .int .i64 0], .cells 41 [.int .i64 0, .int .i64 0], .cells 41 [.int .i64 v26, .int .i64 v27], .cells 41 [.int .i64 v28, .int .i64 v29]])
      · exact (PureSim.any (C57 p0 p1 p2 p3 v28 v29 r61 h62) (flatL (by kernel_rfl)) (by kernel_rfl) [.cells 30 [.int .i64 p0, .int .i64 p1, .int .i64 p2, .int .i64 p3], .cells 41 [.int .i64 0, .int .i64 0], .cells 41 [.int .i64 0, .int .i64 0], .cells 41 [.int .i64 v26, .int .i64 v27], .cells 41 [.int .i64 v28, .int .i64 v29]])
      · exact (PureSim.any (C51 r59.1 r59.2 r61.1 r61.2 false h64) (flatL (by kernel_rfl)) (by kernel_rfl) [.cells 30 [.int .i64 p0, .int .i64 p1, .int .i64 p2, .int .i64 p3], .cells 41 [.int .i64 0, .int .i64 0], .cells 41 [.int .i64 0, .int .i64 0], .cells 41 [.int .i64 v26, .int .i64 v27], .cells 41 [.int .i64 v28, .int .i64 v29]])
    refine TS.draw' (id := 2) (b := true) (ops := c62.s2.s2.s1.bd.bd.s1.s1.rops) (fin := ({ act := (st 65 [(1, .pointer (some ⟨0, 0, none⟩)), (2, .pointer (some ⟨1, 0, none⟩)), (3, .pointer (some ⟨2, 0, none⟩)), (4, .pointer (some ⟨3, 0, none⟩)), (5, .pointer (some ⟨4, 0, none⟩)), (11, .agg ⟨[.int .i64 p0, .int .i64 p1, .int .i64 p2, .int .i64 p3]⟩), (12, .agg ⟨[.int .i64 v26, .int .i64 v27]⟩), (13, .agg ⟨[.int .i64 r59.1, .int .i64 r59.2]⟩), (14, .agg ⟨[.int .i64 p0, .int .i64 p1, .int .i64 p2, .int .i64 p3]⟩), (15, .agg ⟨[.int .i64 v28, .int .i64 v29]⟩)]), heap := [.cells 30 [.int .i64 p0, .int .i64 p1, .int .i64 p2, .int .i64 p3], .cells 41 [.int .i64 0, .int .i64 0], .cells 41 [.int .i64 0, .int .i64 0], .cells 41 [.int .i64 v26, .int .i64 v27], .cells 41 [.int .i64 v28, .int .i64 v29]], own := [], upds := [] } : QSt)) (fin2 := ({ act := (st 65 [(1, .pointer (some ⟨0, 0, none⟩)), (2, .pointer (some ⟨1, 0, none⟩)), (3, .pointer (some ⟨2, 0, none⟩)), (4, .pointer (some ⟨3, 0, none⟩)), (5, .pointer (some ⟨4, 0, none⟩)), (11, .agg ⟨[.int .i64 p0, .int .i64 p1, .int .i64 p2, .int .i64 p3]⟩), (12, .agg ⟨[.int .i64 v26, .int .i64 v27]⟩), (13, .agg ⟨[.int .i64 r59.1, .int .i64 r59.2]⟩), (14, .agg ⟨[.int .i64 p0, .int .i64 p1, .int .i64 p2, .int .i64 p3]⟩), (15, .agg ⟨[.int .i64 v28, .int .i64 v29]⟩)]), heap := [.cells 30 [.int .i64 p0, .int .i64 p1, .int .i64 p2, .int .i64 p3], .cells 41 [.int .i64 0, .int .i64 0], .cells 41 [.int .i64 0, .int .i64 0], .cells 41 [.int .i64 v26, .int .i64 v27], .cells 41 [.int .i64 v28, .int .i64 v29]], own := [], upds := [] } : QSt)) (a1 := (st 65 [(1, .pointer (some ⟨0, 0, none⟩)), (2, .pointer (some ⟨1, 0, none⟩)), (3, .pointer (some ⟨2, 0, none⟩)), (4, .pointer (some ⟨3, 0, none⟩)), (5, .pointer (some ⟨4, 0, none⟩)), (11, .agg ⟨[.int .i64 p0, .int .i64 p1, .int .i64 p2, .int .i64 p3]⟩), (12, .agg ⟨[.int .i64 v26, .int .i64 v27]⟩), (13, .agg ⟨[.int .i64 r59.1, .int .i64 r59.2]⟩), (14, .agg ⟨[.int .i64 p0, .int .i64 p1, .int .i64 p2, .int .i64 p3]⟩), (15, .agg ⟨[.int .i64 v28, .int .i64 v29]⟩), (16, .agg ⟨[.int .i64 r61.1, .int .i64 r61.2]⟩), (17, .agg ⟨[.int .i64 r59.1, .int .i64 r59.2, .int .i64 r61.1, .int .i64 r61.2]⟩), (18, .bool false), (19, .bool true)])) (h1 := [.cells 30 [.int .i64 p0, .int .i64 p1, .int .i64 p2, .int .i64 p3], .cells 41 [.int .i64 0, .int .i64 0], .cells 41 [.int .i64 0, .int .i64 0], .cells 41 [.int .i64 v26, .int .i64 v27], .cells 41 [.int .i64 v28, .int .i64 v29]]) (a2 := (st 65 [(1, .pointer (some ⟨0, 0, none⟩)), (2, .pointer (some ⟨1, 0, none⟩)), (3, .pointer (some ⟨2, 0, none⟩)), (4, .pointer (some ⟨3, 0, none⟩)), (5, .pointer (some ⟨4, 0, none⟩)), (19, .bool true)])) (h2 := [.cells 30 [.int .i64 p0, .int .i64 p1, .int .i64 p2, .int .i64 p3], .cells 41 [.int .i64 0, .int .i64 0], .cells 41 [.int .i64 0, .int .i64 0], .cells 41 [.int .i64 v26, .int .i64 v27], .cells 41 [.int .i64 v28, .int .i64 v29]]) [⟨57, [.agg ⟨[.int .i64 p0, .int .i64 p1, .int .i64 p2, .int .i64 p3]⟩, .agg ⟨[.int .i64 v26, .int .i64 v27]⟩], [.cells 30 [.int .i64 p0, .int .i64 p1, .int .i64 p2, .int .i64 p3], .cells 41 [.int .i64 0, .int .i64 0], .cells 41 [.int .i64 0, .int .i64 0], .cells 41 [.int .i64 v26, .int .i64 v27], .cells 41 [.int .i64 v28, .int .i64 v29]], .agg ⟨[.int .i64 r59.1, .int .i64 r59.2]⟩, []⟩, ⟨57, [.agg ⟨[.int .i64 p0, .int .i64 p1, .int .i64 p2, .int .i64 p3]⟩, .agg ⟨[.int .i64 v28, .int .i64 v29]⟩], [.cells 30 [.int .i64 p0, .int .i64 p1, .int .i64 p2, .int .i64 p3], .cells 41 [.int .i64 0, .int .i64 0], .cells 41 [.int .i64 0, .int .i64 0], .cells 41 [.int .i64 v26, .int .i64 v27], .cells 41 [.int .i64 v28, .int .i64 v29]], .agg ⟨[.int .i64 r61.1, .int .i64 r61.2]⟩, []⟩, ⟨51, [.agg ⟨[.int .i64 r59.1, .int .i64 r59.2, .int .i64 r61.1, .int .i64 r61.2]⟩], [.cells 30 [.int .i64 p0, .int .i64 p1, .int .i64 p2, .int .i64 p3], .cells 41 [.int .i64 0, .int .i64 0], .cells 41 [.int .i64 0, .int .i64 0], .cells 41 [.int .i64 v26, .int .i64 v27], .cells 41 [.int .i64 v28, .int .i64 v29]], .bool false, []⟩] hT mixed (by kernel_rfl) rfl 5 (by kernel_rfl) [] ?_ rfl (.inl ⟨rfl, rfl⟩) ?_ [1, 2, 3, 4, 5, 19] [0, 1, 2, 3, 4] (by kernel_rfl) ?_
    · refine QI.run (s1 := ({ act := (st 65 [(1, .pointer (some ⟨0, 0, none⟩)), (2, .pointer (some ⟨1, 0, none⟩)), (3, .pointer (some ⟨2, 0, none⟩)), (4, .pointer (some ⟨3, 0, none⟩)), (5, .pointer (some ⟨4, 0, none⟩)), (11, .agg ⟨[.int .i64 p0, .int .i64 p1, .int .i64 p2, .int .i64 p3]⟩), (12, .agg ⟨[.int .i64 v26, .int .i64 v27]⟩)]), heap := [.cells 30 [.int .i64 p0, .int .i64 p1, .int .i64 p2, .int .i64 p3], .cells 41 [.int .i64 0, .int .i64 0], .cells 41 [.int .i64 0, .int .i64 0], .cells 41 [.int .i64 v26, .int .i64 v27], .cells 41 [.int .i64 v28, .int .i64 v29]], own := [], upds := [] } : QSt)) 2 (by kernel_rfl) (by kernel_rfl) ?_
      refine QI.op (q := { val := .agg ⟨[.int .i64 r59.1, .int .i64 r59.2]⟩, new := [] }) (s1 := ({ act := (st 65 [(1, .pointer (some ⟨0, 0, none⟩)), (2, .pointer (some ⟨1, 0, none⟩)), (3, .pointer (some ⟨2, 0, none⟩)), (4, .pointer (some ⟨3, 0, none⟩)), (5, .pointer (some ⟨4, 0, none⟩)), (11, .agg ⟨[.int .i64 p0, .int .i64 p1, .int .i64 p2, .int .i64 p3]⟩), (12, .agg ⟨[.int .i64 v26, .int .i64 v27]⟩), (13, .agg ⟨[.int .i64 r59.1, .int .i64 r59.2]⟩)]), heap := [.cells 30 [.int .i64 p0, .int .i64 p1, .int .i64 p2, .int .i64 p3], .cells 41 [.int .i64 0, .int .i64 0], .cells 41 [.int .i64 0, .int .i64 0], .cells 41 [.int .i64 v26, .int .i64 v27], .cells 41 [.int .i64 v28, .int .i64 v29]], own := [], upds := [] } : QSt)) (by decide) (qOf_call (g := 57) (args := [.agg ⟨[.int .i64 p0, .int .i64 p1, .int .i64 p2, .int .i64 p3]⟩, .agg ⟨[.int .i64 v26, .int .i64 v27]⟩]) (by kernel_rfl) lookC_hit) (by kernel_rfl) ?_
      refine QI.run (s1 := ({ act := (st 65 [(1, .pointer (some ⟨0, 0, none⟩)), (2, .pointer (some ⟨1, 0, none⟩)), (3, .pointer (some ⟨2, 0, none⟩)), (4, .pointer (some ⟨3, 0, none⟩)), (5, .pointer (some ⟨4, 0, none⟩)), (11, .agg ⟨[.int .i64 p0, .int .i64 p1, .int .i64 p2, .int .i64 p3]⟩), (12, .agg ⟨[.int .i64 v26, .int .i64 v27]⟩), (13, .agg ⟨[.int .i64 r59.1, .int .i64 r59.2]⟩), (14, .agg ⟨[.int .i64 p0, .int .i64 p1, .int .i64 p2, .int .i64 p3]⟩), (15, .agg ⟨[.int .i64 v28, .int .i64 v29]⟩)]), heap := [.cells 30 [.int .i64 p0, .int .i64 p1, .int .i64 p2, .int .i64 p3], .cells 41 [.int .i64 0, .int .i64 0], .cells 41 [.int .i64 0, .int .i64 0], .cells 41 [.int .i64 v26, .int .i64 v27], .cells 41 [.int .i64 v28, .int .i64 v29]], own := [], upds := [] } : QSt)) 2 (by kernel_rfl) (by kernel_rfl) ?_
      exact QI.done (by kernel_rfl)
    · refine SI.op (q := { val := .agg ⟨[.int .i64 r61.1, .int .i64 r61.2]⟩, new := [] }) (a2 := (st 65 [(1, .pointer (some ⟨0, 0, none⟩)), (2, .pointer (some ⟨1, 0, none⟩)), (3, .pointer (some ⟨2, 0, none⟩)), (4, .pointer (some ⟨3, 0, none⟩)), (5, .pointer (some ⟨4, 0, none⟩)), (11, .agg ⟨[.int .i64 p0, .int .i64 p1, .int .i64 p2, .int .i64 p3]⟩), (12, .agg ⟨[.int .i64 v26, .int .i64 v27]⟩), (13, .agg ⟨[.int .i64 r59.1, .int .i64 r59.2]⟩), (14, .agg ⟨[.int .i64 p0, .int .i64 p1, .int .i64 p2, .int .i64 p3]⟩), (15, .agg ⟨[.int .i64 v28, .int .i64 v29]⟩), (16, .agg ⟨[.int .i64 r61.1, .int .i64 r61.2]⟩)])) (h2 := [.cells 30 [.int .i64 p0, .int .i64 p1, .int .i64 p2, .int .i64 p3], .cells 41 [.int .i64 0, .int .i64 0], .cells 41 [.int .i64 0, .int .i64 0], .cells 41 [.int .i64 v26, .int .i64 v27], .cells 41 [.int .i64 v28, .int .i64 v29]]) (by kernel_rfl) (qOf_call (g := 57) (args := [.agg ⟨[.int .i64 p0, .int .i64 p1, .int .i64 p2, .int .i64 p3]⟩, .agg ⟨[.int .i64 v28, .int .i64 v29]⟩]) (by kernel_rfl) (lookC_skip (by intro _ ha _; have hq := h60; have hi := h62; clear hF; first | (exfalso; simp at ha; done) | ((try simp at ha); have hr := Option.some.inj (hq.symm.trans (Eq.trans (by first | rfl | (congr 1 <;> first | rfl | omega | simp_all)) hi)); subst hr; rfl)) lookC_hit)) (by kernel_rfl) (by kernel_rfl) ?_
      refine SI.run (a2 := (st 65 [(1, .pointer (some ⟨0, 0, none⟩)), (2, .pointer (some ⟨1, 0, none⟩)), (3, .pointer (some ⟨2, 0, none⟩)), (4, .pointer (some ⟨3, 0, none⟩)), (5, .pointer (some ⟨4, 0, none⟩)), (11, .agg ⟨[.int .i64 p0, .int .i64 p1, .int .i64 p2, .int .i64 p3]⟩), (12, .agg ⟨[.int .i64 v26, .int .i64 v27]⟩), (13, .agg ⟨[.int .i64 r59.1, .int .i64 r59.2]⟩), (14, .agg ⟨[.int .i64 p0, .int .i64 p1, .int .i64 p2, .int .i64 p3]⟩), (15, .agg ⟨[.int .i64 v28, .int .i64 v29]⟩), (16, .agg ⟨[.int .i64 r61.1, .int .i64 r61.2]⟩), (17, .agg ⟨[.int .i64 r59.1, .int .i64 r59.2, .int .i64 r61.1, .int .i64 r61.2]⟩)])) (h2 := [.cells 30 [.int .i64 p0, .int .i64 p1, .int .i64 p2, .int .i64 p3], .cells 41 [.int .i64 0, .int .i64 0], .cells 41 [.int .i64 0, .int .i64 0], .cells 41 [.int .i64 v26, .int .i64 v27], .cells 41 [.int .i64 v28, .int .i64 v29]]) 1 (by kernel_rfl) ?_
      refine SI.op (q := { val := .bool false, new := [] }) (a2 := (st 65 [(1, .pointer (some ⟨0, 0, none⟩)), (2, .pointer (some ⟨1, 0, none⟩)), (3, .pointer (some ⟨2, 0, none⟩)), (4, .pointer (some ⟨3, 0, none⟩)), (5, .pointer (some ⟨4, 0, none⟩)), (11, .agg ⟨[.int .i64 p0, .int .i64 p1, .int .i64 p2, .int .i64 p3]⟩), (12, .agg ⟨[.int .i64 v26, .int .i64 v27]⟩), (13, .agg ⟨[.int .i64 r59.1, .int .i64 r59.2]⟩), (14, .agg ⟨[.int .i64 p0, .int .i64 p1, .int .i64 p2, .int .i64 p3]⟩), (15, .agg ⟨[.int .i64 v28, .int .i64 v29]⟩), (16, .agg ⟨[.int .i64 r61.1, .int .i64 r61.2]⟩), (17, .agg ⟨[.int .i64 r59.1, .int .i64 r59.2, .int .i64 r61.1, .int .i64 r61.2]⟩), (18, .bool false)])) (h2 := [.cells 30 [.int .i64 p0, .int .i64 p1, .int .i64 p2, .int .i64 p3], .cells 41 [.int .i64 0, .int .i64 0], .cells 41 [.int .i64 0, .int .i64 0], .cells 41 [.int .i64 v26, .int .i64 v27], .cells 41 [.int .i64 v28, .int .i64 v29]]) (by kernel_rfl) (qOf_call (g := 51) (args := [.agg ⟨[.int .i64 r59.1, .int .i64 r59.2, .int .i64 r61.1, .int .i64 r61.2]⟩]) (by kernel_rfl) (lookC_skip (fun hg => absurd (show (57 : Nat) = 51 from hg) (by decide)) (lookC_skip (fun hg => absurd (show (57 : Nat) = 51 from hg) (by decide)) lookC_hit))) (by kernel_rfl) (by kernel_rfl) ?_
      refine SI.run (a2 := (st 65 [(1, .pointer (some ⟨0, 0, none⟩)), (2, .pointer (some ⟨1, 0, none⟩)), (3, .pointer (some ⟨2, 0, none⟩)), (4, .pointer (some ⟨3, 0, none⟩)), (5, .pointer (some ⟨4, 0, none⟩)), (11, .agg ⟨[.int .i64 p0, .int .i64 p1, .int .i64 p2, .int .i64 p3]⟩), (12, .agg ⟨[.int .i64 v26, .int .i64 v27]⟩), (13, .agg ⟨[.int .i64 r59.1, .int .i64 r59.2]⟩), (14, .agg ⟨[.int .i64 p0, .int .i64 p1, .int .i64 p2, .int .i64 p3]⟩), (15, .agg ⟨[.int .i64 v28, .int .i64 v29]⟩), (16, .agg ⟨[.int .i64 r61.1, .int .i64 r61.2]⟩), (17, .agg ⟨[.int .i64 r59.1, .int .i64 r59.2, .int .i64 r61.1, .int .i64 r61.2]⟩), (18, .bool false), (19, .bool true)])) (h2 := [.cells 30 [.int .i64 p0, .int .i64 p1, .int .i64 p2, .int .i64 p3], .cells 41 [.int .i64 0, .int .i64 0], .cells 41 [.int .i64 0, .int .i64 0], .cells 41 [.int .i64 v26, .int .i64 v27], .cells 41 [.int .i64 v28, .int .i64 v29]]) 1 (by kernel_rfl) ?_
      exact SI.done (by kernel_rfl)
    exact hK
theorem B62 (p0 : Int) (p1 : Int) (p2 : Int) (p3 : Int) (r : ((Int × Int) × (Int × Int))) (hF : F62 p0 p1 p2 p3 = some r) : TS Try.prog 0 0 c62 (st 65 [(0, .agg ⟨[.int .i64 p0, .int .i64 p1, .int .i64 p2, .int .i64 p3]⟩)]) [] (NX Try.prog 0 0 [] (FinP Try.prog Try.f62 0 (V62 0 r) (N62 0 r))) := by
  unfold F62 at hF
  refine TS.seq' (x := c62.s1) (y := c62.s2) (by kernel_rfl) ?_
  refine TS.region' (id := 0) (b := false) (ops := c62.s1.rops) (by kernel_rfl) rfl ?_
  refine TI.run 3 [1, 2, 3] [0, 1, 2] (a2 := (st 65 [(1, .pointer (some ⟨0, 0, none⟩)), (2, .pointer (some ⟨1, 0, none⟩)), (3, .pointer (some ⟨2, 0, none⟩))])) (h2 := [.cells 30 [.int .i64 p0, .int .i64 p1, .int .i64 p2, .int .i64 p3], .cells 41 [.int .i64 0, .int .i64 0], .cells 41 [.int .i64 0, .int .i64 0]]) (by kernel_rfl) ?_
  refine TI.done (by kernel_rfl) ?_
  refine NX.sq ?_
  refine TS.seq' (x := c62.s2.s1) (y := c62.s2.s2) (by kernel_rfl) ?_
  refine TS.region' (id := 1) (b := false) (ops := c62.s2.s1.rops) (by kernel_rfl) rfl ?_
  refine TI.run 6 [1, 2, 3, 4, 5] [0, 1, 2, 3, 4] (a2 := (st 65 [(1, .pointer (some ⟨0, 0, none⟩)), (2, .pointer (some ⟨1, 0, none⟩)), (3, .pointer (some ⟨2, 0, none⟩)), (4, .pointer (some ⟨3, 0, none⟩)), (5, .pointer (some ⟨4, 0, none⟩))])) (h2 := [.cells 30 [.int .i64 p0, .int .i64 p1, .int .i64 p2, .int .i64 p3], .cells 41 [.int .i64 0, .int .i64 0], .cells 41 [.int .i64 0, .int .i64 0], .cells 41 [.int .i64 1, .int .i64 0], .cells 41 [.int .i64 0, .int .i64 1]]) (by kernel_rfl) ?_
  refine TI.done (by kernel_rfl) ?_
  refine NX.sq ?_
  refine TS.seq' (x := c62.s2.s2.s1) (y := c62.s2.s2.s2) (by kernel_rfl) ?_
  refine TS.block' (id := 0) (x := c62.s2.s2.s1.bd) (by kernel_rfl) ?_
  have hX := of_do hF
  clear hF
  obtain ⟨r84, h85, hF⟩ := hX
  refine TS.loop' (x := c62.s2.s2.s1.bd.bd) (by kernel_rfl) (TL.weak (a2 := (st 65 [(1, .pointer (some ⟨0, 0, none⟩)), (2, .pointer (some ⟨1, 0, none⟩)), (3, .pointer (some ⟨2, 0, none⟩)), (4, .pointer (some ⟨3, 0, none⟩)), (5, .pointer (some ⟨4, 0, none⟩))])) (h2 := [.cells 30 [.int .i64 p0, .int .i64 p1, .int .i64 p2, .int .i64 p3], .cells 41 [.int .i64 0, .int .i64 0], .cells 41 [.int .i64 0, .int .i64 0], .cells 41 [.int .i64 1, .int .i64 0], .cells 41 [.int .i64 0, .int .i64 1]]) (Wk.anew (base := 0) (L := 0) (f := [0, 1, 2, 3, 4]) (by decide) (by decide) (Nat.le_of_ble_eq_true rfl) rfl (.cons (At.blk (by kernel_rfl) (RnB.lit (.cons (.flat (by kernel_rfl)) (.cons (.flat (by kernel_rfl)) (.cons (.flat (by kernel_rfl)) (.cons (.flat (by kernel_rfl)) .nil)))))) (.cons (At.blk (by kernel_rfl) (RnB.lit (.cons (.flat (by kernel_rfl)) (.cons (.flat (by kernel_rfl)) .nil)))) (.cons (At.blk (by kernel_rfl) (RnB.lit (.cons (.flat (by kernel_rfl)) (.cons (.flat (by kernel_rfl)) .nil)))) (.cons (At.blk (by kernel_rfl) (RnB.lit (.cons (.flat (by kernel_rfl)) (.cons (.flat (by kernel_rfl)) .nil)))) (.cons (At.blk (by kernel_rfl) (RnB.lit (.cons (.flat (by kernel_rfl)) (.cons (.flat (by kernel_rfl)) .nil)))) (.nil _)))))) (LRn.stx [1, 2, 3, 4, 5] [.pointer (some ⟨0, 0, none⟩), .pointer (some ⟨1, 0, none⟩), .pointer (some ⟨2, 0, none⟩), .pointer (some ⟨3, 0, none⟩), .pointer (some ⟨4, 0, none⟩)] [.pointer (some ⟨0, 0, none⟩), .pointer (some ⟨1, 0, none⟩), .pointer (some ⟨2, 0, none⟩), .pointer (some ⟨3, 0, none⟩), .pointer (some ⟨4, 0, none⟩)] (.cons (Rn.ptr _ _ _ (Nat.le_of_ble_eq_true rfl) rfl) (.cons (Rn.ptr _ _ _ (Nat.le_of_ble_eq_true rfl) rfl) (.cons (Rn.ptr _ _ _ (Nat.le_of_ble_eq_true rfl) rfl) (.cons (Rn.ptr _ _ _ (Nat.le_of_ble_eq_true rfl) rfl) (.cons (Rn.ptr _ _ _ (Nat.le_of_ble_eq_true rfl) rfl) .nil))))) (by kernel_rfl) (by kernel_rfl) rfl) rfl rfl) (TL.post (L62l0 p0 p1 p2 p3 1 0 0 1 r84 h85) ?_))
  rintro e a1 h1 hp
  obtain ⟨rfl, hw⟩ := hp
  refine ⟨(st 65 [(2, .pointer (some ⟨0, 0, none⟩)), (3, .pointer (some ⟨1, 0, none⟩)), (4, .pointer (some ⟨2, 0, none⟩)), (5, .pointer (some ⟨3, 0, none⟩))]), [.cells 41 [.int .i64 0, .int .i64 0], .cells 41 [.int .i64 0, .int .i64 0], .cells 41 [.int .i64 r84.1, .int .i64 r84.2.1], .cells 41 [.int .i64 r84.2.2.1, .int .i64 r84.2.2.2]], ?_, hw⟩
  refine NX.bkX ?_
  refine NX.sq ?_
  refine TS.seq' (x := c62.s2.s2.s2.s1) (y := c62.s2.s2.s2.s2) (by kernel_rfl) ?_
  refine TS.draw' (id := 8) (b := true) (ops := c62.s2.s2.s2.s1.rops) (fin := ({ act := (st 65 [(2, .pointer (some ⟨0, 0, none⟩)), (3, .pointer (some ⟨1, 0, none⟩)), (4, .pointer (some ⟨2, 0, none⟩)), (5, .pointer (some ⟨3, 0, none⟩)), (63, .agg ⟨[.int .i64 r84.1, .int .i64 r84.2.1]⟩), (64, .agg ⟨[.int .i64 r84.2.2.1, .int .i64 r84.2.2.2]⟩)]), heap := [.cells 41 [.int .i64 r84.1, .int .i64 r84.2.1], .cells 41 [.int .i64 0, .int .i64 0], .cells 41 [.int .i64 r84.1, .int .i64 r84.2.1], .cells 41 [.int .i64 r84.2.2.1, .int .i64 r84.2.2.2]], own := [], upds := [(2, 0)] } : QSt)) (fin2 := ({ act := (st 65 [(2, .pointer (some ⟨0, 0, none⟩)), (3, .pointer (some ⟨1, 0, none⟩)), (4, .pointer (some ⟨2, 0, none⟩)), (5, .pointer (some ⟨3, 0, none⟩)), (63, .agg ⟨[.int .i64 r84.1, .int .i64 r84.2.1]⟩), (64, .agg ⟨[.int .i64 r84.2.2.1, .int .i64 r84.2.2.2]⟩)]), heap := [.cells 41 [.int .i64 r84.1, .int .i64 r84.2.1], .cells 41 [.int .i64 0, .int .i64 0], .cells 41 [.int .i64 r84.1, .int .i64 r84.2.1], .cells 41 [.int .i64 r84.2.2.1, .int .i64 r84.2.2.2]], own := [], upds := [(2, 0)] } : QSt)) (a1 := (st 65 [(2, .pointer (some ⟨0, 0, none⟩)), (3, .pointer (some ⟨1, 0, none⟩)), (4, .pointer (some ⟨2, 0, none⟩)), (5, .pointer (some ⟨3, 0, none⟩)), (63, .agg ⟨[.int .i64 r84.1, .int .i64 r84.2.1]⟩), (64, .agg ⟨[.int .i64 r84.2.2.1, .int .i64 r84.2.2.2]⟩)])) (h1 := [.cells 41 [.int .i64 r84.1, .int .i64 r84.2.1], .cells 41 [.int .i64 r84.2.2.1, .int .i64 r84.2.2.2], .cells 41 [.int .i64 r84.1, .int .i64 r84.2.1], .cells 41 [.int .i64 r84.2.2.1, .int .i64 r84.2.2.2]]) (a2 := (st 65 [(2, .pointer (some ⟨0, 0, none⟩)), (3, .pointer (some ⟨1, 0, none⟩))])) (h2 := [.cells 41 [.int .i64 r84.1, .int .i64 r84.2.1], .cells 41 [.int .i64 r84.2.2.1, .int .i64 r84.2.2.2], .dead, .dead]) [] (fun e he => by cases he) mixed (by kernel_rfl) rfl 3 (by kernel_rfl) [(2, 0)] ?_ rfl (.inr ⟨?_, (by kernel_rfl)⟩) ?_ [2, 3] [0, 1] (by kernel_rfl) ?_
  · refine QI.run (s1 := ({ act := (st 65 [(2, .pointer (some ⟨0, 0, none⟩)), (3, .pointer (some ⟨1, 0, none⟩)), (4, .pointer (some ⟨2, 0, none⟩)), (5, .pointer (some ⟨3, 0, none⟩)), (63, .agg ⟨[.int .i64 r84.1, .int .i64 r84.2.1]⟩), (64, .agg ⟨[.int .i64 r84.2.2.1, .int .i64 r84.2.2.2]⟩)]), heap := [.cells 41 [.int .i64 r84.1, .int .i64 r84.2.1], .cells 41 [.int .i64 0, .int .i64 0], .cells 41 [.int .i64 r84.1, .int .i64 r84.2.1], .cells 41 [.int .i64 r84.2.2.1, .int .i64 r84.2.2.2]], own := [], upds := [(2, 0)] } : QSt)) 3 (by kernel_rfl) (by kernel_rfl) ?_
    exact QI.done (by kernel_rfl)
  · refine QI.run (s1 := ({ act := (st 65 [(2, .pointer (some ⟨0, 0, none⟩)), (3, .pointer (some ⟨1, 0, none⟩)), (4, .pointer (some ⟨2, 0, none⟩)), (5, .pointer (some ⟨3, 0, none⟩)), (63, .agg ⟨[.int .i64 r84.1, .int .i64 r84.2.1]⟩), (64, .agg ⟨[.int .i64 r84.2.2.1, .int .i64 r84.2.2.2]⟩)]), heap := [.cells 41 [.int .i64 r84.1, .int .i64 r84.2.1], .cells 41 [.int .i64 0, .int .i64 0], .cells 41 [.int .i64 r84.1, .int .i64 r84.2.1], .cells 41 [.int .i64 r84.2.2.1, .int .i64 r84.2.2.2]], own := [], upds := [(2, 0)] } : QSt)) 3 (by kernel_rfl) (by kernel_rfl) ?_
    exact QI.done (by kernel_rfl)
  · refine SI.run (a2 := (st 65 [(2, .pointer (some ⟨0, 0, none⟩)), (3, .pointer (some ⟨1, 0, none⟩)), (4, .pointer (some ⟨2, 0, none⟩)), (5, .pointer (some ⟨3, 0, none⟩)), (63, .agg ⟨[.int .i64 r84.1, .int .i64 r84.2.1]⟩), (64, .agg ⟨[.int .i64 r84.2.2.1, .int .i64 r84.2.2.2]⟩)])) (h2 := [.cells 41 [.int .i64 r84.1, .int .i64 r84.2.1], .cells 41 [.int .i64 r84.2.2.1, .int .i64 r84.2.2.2], .cells 41 [.int .i64 r84.1, .int .i64 r84.2.1], .cells 41 [.int .i64 r84.2.2.1, .int .i64 r84.2.2.2]]) 1 (by kernel_rfl) ?_
    exact SI.done (by kernel_rfl)
  refine TS.ret' (by kernel_rfl) ?_
  have hF := Option.some.inj hF
  subst hF
  exact ⟨.inr rfl, rfl, .tuple ⟨[.agg ⟨[.int .i64 r84.1, .int .i64 r84.2.1]⟩, .agg ⟨[.int .i64 r84.2.2.1, .int .i64 r84.2.2.2]⟩]⟩, by kernel_rfl, WkV.flat0 (by kernel_rfl) (Nat.le_of_ble_eq_true rfl)⟩
theorem C62 (p0 : Int) (p1 : Int) (p2 : Int) (p3 : Int) (r : ((Int × Int) × (Int × Int))) (hF : F62 p0 p1 p2 p3 = some r) : PureSim Try.prog 62 [.agg ⟨[.int .i64 p0, .int .i64 p1, .int .i64 p2, .int .i64 p3]⟩] [] (V62 0 r) (N62 0 r) :=
  PureSim.of_Fin Try.func62 (c := c62) (by kernel_rfl) (by kernel_rfl) 0 rfl [0] [] (by kernel_rfl) (B62 p0 p1 p2 p3 r hF)

end Go.Proofs.Ytenjelagfbceeaa
