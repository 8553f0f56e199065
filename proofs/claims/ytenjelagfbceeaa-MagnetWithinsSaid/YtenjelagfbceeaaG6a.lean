/- What functions of the program compute, and that they do. -/
import Derived.Test.YtenjelagfbceeaaTs7
import Derived.Test.YtenjelagfbceeaaProg
import Derived.KernelRfl
import Derived.Test.YtenjelagfbceeaaGiven
set_option linter.unusedVariables false
set_option linter.unusedSimpArgs false
set_option maxRecDepth 100000
set_option maxHeartbeats 4000000
namespace Go.Proofs.Ytenjelagfbceeaa
open Go Go.Cl
theorem mixed : Try.prog.follows .mixedOrders = true := by kernel_rfl
def e27 (x : (Int × Int)) : List Value := [.int .i64 x.1, .int .i64 x.2]
-- agonic/magnet.between
noncomputable def c68 : Code := Try.f68.code
def F68 (p0 : Int) (p1 : Int) (p2 : Int) : Option Bool :=
  (
    if decide (p0 ≤ p1) then
      some (decide (p1 ≤ p2))
    else
      some (false)
  : Option Bool) >>= fun m2 =>
  some m2
def V68 (b : Nat) (r : Bool) : Value := .bool r
def N68 (b : Nat) (r : Bool) : List Blk := []
theorem B68 (p0 : Int) (p1 : Int) (p2 : Int) (r : Bool) (hF : F68 p0 p1 p2 = some r) : TS Try.prog 0 0 c68 (st 15 [(0, .int .i64 p0), (1, .int .i64 p1), (2, .int .i64 p2)]) [] (NX Try.prog 0 0 [] (FinP Try.prog Try.f68 0 (V68 0 r) (N68 0 r))) := by
  unfold F68 at hF
  refine TS.seq' (x := c68.s1) (y := c68.s2) (by kernel_rfl) ?_
  refine TS.region' (id := 0) (b := false) (ops := c68.s1.rops) (by kernel_rfl) rfl ?_
  refine TI.run 1 [0, 1, 2] [] (a2 := (st 15 [(0, .int .i64 p0), (1, .int .i64 p1), (2, .int .i64 p2)])) (h2 := []) (by kernel_rfl) ?_
  refine TI.done (by kernel_rfl) ?_
  refine NX.sq ?_
  refine TS.seq' (x := c68.s2.s1) (y := c68.s2.s2) (by kernel_rfl) ?_
  have hX := of_do hF
  clear hF
  obtain ⟨m2, hm3, hF⟩ := hX
  have hK : NX Try.prog 0 0 [.sq c68.s2.s2] (FinP Try.prog Try.f68 0 (V68 0 r) (N68 0 r)) .normal (st 15 [(6, .bool m2)]) [] := by
    refine NX.sq ?_
    refine TS.ret' (by kernel_rfl) ?_
    have hF := Option.some.inj hF
    subst hF
    exact ⟨.inr rfl, rfl, .bool m2, by kernel_rfl, WkV.flat0 (by kernel_rfl) (Nat.le_of_ble_eq_true rfl)⟩
  rcases Bool.eq_false_or_eq_true (decide (p0 ≤ p1)) with hc1 | hc1
  · replace hm3 := of_pos hm3 hc1
    have hm3 := Option.some.inj hm3
    subst hm3
    refine TS.region' (id := 1) (b := false) (ops := c68.s2.s1.rops) (by kernel_rfl) rfl ?_
    refine TI.run 2 [1, 2, 7, 8] [] (a2 := (st 15 [(1, .int .i64 p1), (2, .int .i64 p2), (7, .int .i64 p0), (8, .int .i64 p1)])) (h2 := []) (by kernel_rfl) ?_
    refine TI.op (q := { val := .bool true }) (q_conv (e := decide (p0 ≤ p1)) (b := true) (by kernel_rfl) hc1) [1, 2, 9] [] (a2 := (st 15 [(1, .int .i64 p1), (2, .int .i64 p2), (9, .bool true)])) (h2 := []) (by kernel_rfl) ?_
    refine TI.run 6 [6] [] (a2 := (st 15 [(6, .bool (decide (p1 ≤ p2)))])) (h2 := []) (by kernel_rfl) ?_
    refine TI.done (by kernel_rfl) ?_
    exact hK
  · replace hm3 := of_neg hm3 hc1
    have hm3 := Option.some.inj hm3
    subst hm3
    refine TS.region' (id := 1) (b := false) (ops := c68.s2.s1.rops) (by kernel_rfl) rfl ?_
    refine TI.run 2 [1, 2, 7, 8] [] (a2 := (st 15 [(1, .int .i64 p1), (2, .int .i64 p2), (7, .int .i64 p0), (8, .int .i64 p1)])) (h2 := []) (by kernel_rfl) ?_
    refine TI.op (q := { val := .bool false }) (q_conv (e := decide (p0 ≤ p1)) (b := false) (by kernel_rfl) hc1) [1, 2, 9] [] (a2 := (st 15 [(1, .int .i64 p1), (2, .int .i64 p2), (9, .bool false)])) (h2 := []) (by kernel_rfl) ?_
    refine TI.run 6 [6] [] (a2 := (st 15 [(6, .bool false)])) (h2 := []) (by kernel_rfl) ?_
    refine TI.done (by kernel_rfl) ?_
    exact hK
theorem C68 (p0 : Int) (p1 : Int) (p2 : Int) (r : Bool) (hF : F68 p0 p1 p2 = some r) : PureSim Try.prog 68 [.int .i64 p0, .int .i64 p1, .int .i64 p2] [] (V68 0 r) (N68 0 r) :=
  PureSim.of_Fin Try.func68 (c := c68) (by kernel_rfl) (by kernel_rfl) 0 rfl [0, 1, 2] [] (by kernel_rfl) (B68 p0 p1 p2 r hF)

-- (agonic/magnet.Vector).within
noncomputable def c58 : Code := Try.f58.code
def F58 (p0 : Int) (p1 : Int) (p2 : Int) : Option Bool :=
  F68 (w64 (0 - p2)) p0 p2 >>= fun r1 =>
  (
    if r1 then
      F68 (w64 (0 - p2)) p1 p2 >>= fun r3 =>
      some (r3)
    else
      some (false)
  : Option Bool) >>= fun m5 =>
  some m5
def V58 (b : Nat) (r : Bool) : Value := .bool r
def N58 (b : Nat) (r : Bool) : List Blk := []
theorem B58 (p0 : Int) (p1 : Int) (p2 : Int) (r : Bool) (hF : F58 p0 p1 p2 = some r) : TS Try.prog 0 0 c58 (st 19 [(0, .agg ⟨[.int .i64 p0, .int .i64 p1]⟩), (1, .int .i64 p2)]) [] (NX Try.prog 0 0 [] (FinP Try.prog Try.f58 0 (V58 0 r) (N58 0 r))) := by
  unfold F58 at hF
  refine TS.seq' (x := c58.s1) (y := c58.s2) (by kernel_rfl) ?_
  refine TS.region' (id := 0) (b := false) (ops := c58.s1.rops) (by kernel_rfl) rfl ?_
  refine TI.run 2 [1, 2] [0] (a2 := (st 19 [(1, .int .i64 p2), (2, .pointer (some ⟨0, 0, none⟩))])) (h2 := [.cells 23 [.int .i64 p0, .int .i64 p1]]) (by kernel_rfl) ?_
  refine TI.done (by kernel_rfl) ?_
  refine NX.sq ?_
  refine TS.seq' (x := c58.s2.s1) (y := c58.s2.s2) (by kernel_rfl) ?_
  have hX := of_do hF
  clear hF
  obtain ⟨r1, h2, hF⟩ := hX
  have hX := of_do hF
  clear hF
  obtain ⟨m5, hm6, hF⟩ := hX
  have hK : NX Try.prog 0 0 [.sq c58.s2.s2] (FinP Try.prog Try.f58 0 (V58 0 r) (N58 0 r)) .normal (st 19 [(4, .bool m5)]) [.dead] := by
    refine NX.sq ?_
    refine TS.ret' (by kernel_rfl) ?_
    have hF := Option.some.inj hF
    subst hF
    exact ⟨.inr rfl, rfl, .bool m5, by kernel_rfl, WkV.flat0 (by kernel_rfl) (Nat.le_of_ble_eq_true rfl)⟩
  cases r1 with
  | true =>
    replace hm6 := of_pos hm6 rfl
    have hX := of_do hm6
    clear hm6
    obtain ⟨r3, h4, hm6⟩ := hX
    have hm6 := Option.some.inj hm6
    subst hm6
    refine TS.region' (id := 1) (b := false) (ops := c58.s2.s1.rops) (by kernel_rfl) rfl ?_
    refine TI.run 5 [1, 2, 6, 8, 9] [0] (a2 := (st 19 [(1, .int .i64 p2), (2, .pointer (some ⟨0, 0, none⟩)), (6, .int .i64 (w64 (0 - p2))), (8, .int .i64 p0), (9, .int .i64 p2)])) (h2 := [.cells 23 [.int .i64 p0, .int .i64 p1]]) (by kernel_rfl) ?_
    refine TI.callM (g := 68) (args := [.int .i64 (w64 (0 - p2)), .int .i64 p0, .int .i64 p2]) (v := .bool true) (new := []) (by kernel_rfl) (PureSim.any (C68 (w64 (0 - p2)) p0 p2 true h2) (flatL (by kernel_rfl)) (by kernel_rfl) [.cells 23 [.int .i64 p0, .int .i64 p1]]) [1, 2, 10] [0] (a2 := (st 19 [(1, .int .i64 p2), (2, .pointer (some ⟨0, 0, none⟩)), (10, .bool true)])) (h2 := [.cells 23 [.int .i64 p0, .int .i64 p1]]) (by kernel_rfl) ?_
    refine TI.run 6 [11, 13, 15, 16] [] (a2 := (st 19 [(11, .bool true), (13, .int .i64 (w64 (0 - p2))), (15, .int .i64 p1), (16, .int .i64 p2)])) (h2 := [.dead]) (by kernel_rfl) ?_
    refine TI.callM (g := 68) (args := [.int .i64 (w64 (0 - p2)), .int .i64 p1, .int .i64 p2]) (v := .bool r3) (new := []) (by kernel_rfl) (PureSim.any (C68 (w64 (0 - p2)) p1 p2 r3 h4) (flatL (by kernel_rfl)) (by kernel_rfl) [.dead]) [11, 17] [] (a2 := (st 19 [(11, .bool true), (17, .bool r3)])) (h2 := [.dead]) (by kernel_rfl) ?_
    refine TI.run 2 [4] [] (a2 := (st 19 [(4, .bool r3)])) (h2 := [.dead]) (by kernel_rfl) ?_
    refine TI.done (by kernel_rfl) ?_
    exact hK
  | false =>
    replace hm6 := of_neg hm6 rfl
    have hm6 := Option.some.inj hm6
    subst hm6
    refine TS.region' (id := 1) (b := false) (ops := c58.s2.s1.rops) (by kernel_rfl) rfl ?_
    refine TI.run 5 [1, 2, 6, 8, 9] [0] (a2 := (st 19 [(1, .int .i64 p2), (2, .pointer (some ⟨0, 0, none⟩)), (6, .int .i64 (w64 (0 - p2))), (8, .int .i64 p0), (9, .int .i64 p2)])) (h2 := [.cells 23 [.int .i64 p0, .int .i64 p1]]) (by kernel_rfl) ?_
    refine TI.callM (g := 68) (args := [.int .i64 (w64 (0 - p2)), .int .i64 p0, .int .i64 p2]) (v := .bool false) (new := []) (by kernel_rfl) (PureSim.any (C68 (w64 (0 - p2)) p0 p2 false h2) (flatL (by kernel_rfl)) (by kernel_rfl) [.cells 23 [.int .i64 p0, .int .i64 p1]]) [1, 2, 10] [0] (a2 := (st 19 [(1, .int .i64 p2), (2, .pointer (some ⟨0, 0, none⟩)), (10, .bool false)])) (h2 := [.cells 23 [.int .i64 p0, .int .i64 p1]]) (by kernel_rfl) ?_
    refine TI.run 9 [4] [] (a2 := (st 19 [(4, .bool false)])) (h2 := [.dead]) (by kernel_rfl) ?_
    refine TI.done (by kernel_rfl) ?_
    exact hK
theorem C58 (p0 : Int) (p1 : Int) (p2 : Int) (r : Bool) (hF : F58 p0 p1 p2 = some r) : PureSim Try.prog 58 [.agg ⟨[.int .i64 p0, .int .i64 p1]⟩, .int .i64 p2] [] (V58 0 r) (N58 0 r) :=
  PureSim.of_Fin Try.func58 (c := c58) (by kernel_rfl) (by kernel_rfl) 0 rfl [0, 1] [] (by kernel_rfl) (B58 p0 p1 p2 r hF)

-- (agonic/magnet.Vector).cross
noncomputable def c59 : Code := Try.f59.code
def F59 (p0 : Int) (p1 : Int) (p2 : Int) (p3 : Int) : Option Int :=
  some (w64 ((w64 (p0 * p3)) - (w64 (p1 * p2))))
def V59 (b : Nat) (r : Int) : Value := .int .i64 r
def N59 (b : Nat) (r : Int) : List Blk := []
theorem B59 (p0 : Int) (p1 : Int) (p2 : Int) (p3 : Int) (r : Int) (hF : F59 p0 p1 p2 p3 = some r) : TS Try.prog 0 0 c59 (st 16 [(0, .agg ⟨[.int .i64 p0, .int .i64 p1]⟩), (1, .agg ⟨[.int .i64 p2, .int .i64 p3]⟩)]) [] (NX Try.prog 0 0 [] (FinP Try.prog Try.f59 0 (V59 0 r) (N59 0 r))) := by
  unfold F59 at hF
  refine TS.seq' (x := c59.s1) (y := c59.s2) (by kernel_rfl) ?_
  refine TS.region' (id := 0) (b := false) (ops := c59.s1.rops) (by kernel_rfl) rfl ?_
  refine TI.run 3 [2, 3] [0, 1] (a2 := (st 16 [(2, .pointer (some ⟨0, 0, none⟩)), (3, .pointer (some ⟨1, 0, none⟩))])) (h2 := [.cells 23 [.int .i64 p0, .int .i64 p1], .cells 23 [.int .i64 p2, .int .i64 p3]]) (by kernel_rfl) ?_
  refine TI.done (by kernel_rfl) ?_
  refine NX.sq ?_
  refine TS.seq' (x := c59.s2.s1) (y := c59.s2.s2) (by kernel_rfl) ?_
  refine TS.region' (id := 1) (b := false) (ops := c59.s2.s1.rops) (by kernel_rfl) rfl ?_
  refine TI.run 12 [4] [] (a2 := (st 16 [(4, .int .i64 (w64 ((w64 (p0 * p3)) - (w64 (p1 * p2)))))])) (h2 := [.dead, .dead]) (by kernel_rfl) ?_
  refine TI.done (by kernel_rfl) ?_
  refine NX.sq ?_
  refine TS.ret' (by kernel_rfl) ?_
  have hF := Option.some.inj hF
  subst hF
  exact ⟨.inr rfl, rfl, .int .i64 (w64 ((w64 (p0 * p3)) - (w64 (p1 * p2)))), by kernel_rfl, WkV.flat0 (by kernel_rfl) (Nat.le_of_ble_eq_true rfl)⟩
theorem C59 (p0 : Int) (p1 : Int) (p2 : Int) (p3 : Int) (r : Int) (hF : F59 p0 p1 p2 p3 = some r) : PureSim Try.prog 59 [.agg ⟨[.int .i64 p0, .int .i64 p1]⟩, .agg ⟨[.int .i64 p2, .int .i64 p3]⟩] [] (V59 0 r) (N59 0 r) :=
  PureSim.of_Fin Try.func59 (c := c59) (by kernel_rfl) (by kernel_rfl) 0 rfl [0, 1] [] (by kernel_rfl) (B59 p0 p1 p2 p3 r hF)

-- agonic/magnet.Check
noncomputable def c20 : Code := Try.f20.code
def F20 (p0 : Int) (p1 : Int) (p2 : Int) (p3 : Int) : Option Int :=
  F58 p0 p1 1000 >>= fun r1 =>
  (
    if r1 then
      F58 p2 p3 1000 >>= fun r3 =>
      if r3 then
        some (false)
      else
        some (true)
    else
      some (true)
  : Option Bool) >>= fun m5 =>
  if m5 then
    some 1
  else
    F59 p0 p1 p2 p3 >>= fun r6 =>
    if r6 == 0 then
      some 15
    else
      some 0
def V20 (b : Nat) (r : Int) : Value := .int .i64 r
def N20 (b : Nat) (r : Int) : List Blk := []
theorem B20 (p0 : Int) (p1 : Int) (p2 : Int) (p3 : Int) (r : Int) (hF : F20 p0 p1 p2 p3 = some r) : TS Try.prog 0 0 c20 (st 21 [(0, .agg ⟨[.int .i64 p0, .int .i64 p1, .int .i64 p2, .int .i64 p3]⟩)]) [] (NX Try.prog 0 0 [] (FinP Try.prog Try.f20 0 (V20 0 r) (N20 0 r))) := by
  unfold F20 at hF
  refine TS.seq' (x := c20.s1) (y := c20.s2) (by kernel_rfl) ?_
  refine TS.region' (id := 0) (b := false) (ops := c20.s1.rops) (by kernel_rfl) rfl ?_
  refine TI.run 2 [1] [0] (a2 := (st 21 [(1, .pointer (some ⟨0, 0, none⟩))])) (h2 := [.cells 25 [.int .i64 p0, .int .i64 p1, .int .i64 p2, .int .i64 p3]]) (by kernel_rfl) ?_
  refine TI.done (by kernel_rfl) ?_
  refine NX.sq ?_
  refine TS.seq' (x := c20.s2.s1) (y := c20.s2.s2) (by kernel_rfl) ?_
  refine TS.block' (id := 0) (x := c20.s2.s1.bd) (by kernel_rfl) ?_
  refine TS.seq' (x := c20.s2.s1.bd.s1) (y := c20.s2.s1.bd.s2) (by kernel_rfl) ?_
  have hX := of_do hF
  clear hF
  obtain ⟨r1, h2, hF⟩ := hX
  have hX := of_do hF
  clear hF
  obtain ⟨m5, hm9, hF⟩ := hX
  have hK : NX Try.prog 0 0 [.sq c20.s2.s1.bd.s2, .bk 0, .sq c20.s2.s2] (FinP Try.prog Try.f20 0 (V20 0 r) (N20 0 r)) .normal (st 21 [(1, .pointer (some ⟨0, 0, none⟩)), (3, .bool m5)]) [.cells 25 [.int .i64 p0, .int .i64 p1, .int .i64 p2, .int .i64 p3]] := by
    refine NX.sq ?_
    cases m5 with
    | true =>
      replace hF := of_pos hF rfl
      refine TS.condT' (o := (.tmp 3)) (x := c20.s2.s1.bd.s2.th) (y := c20.s2.s1.bd.s2.el) (by kernel_rfl) (by kernel_rfl) ?_
      refine TS.seq' (x := c20.s2.s1.bd.s2.th.s1) (y := c20.s2.s1.bd.s2.th.s2) (by kernel_rfl) ?_
      refine TS.region' (id := 2) (b := false) (ops := c20.s2.s1.bd.s2.th.s1.rops) (by kernel_rfl) rfl ?_
      refine TI.run 1 [2] [] (a2 := (st 21 [(2, .int .i64 1)])) (h2 := [.dead]) (by kernel_rfl) ?_
      refine TI.done (by kernel_rfl) ?_
      refine NX.sq ?_
      refine TS.ret' (by kernel_rfl) ?_
      refine NX.bkR ?_
      refine NX.sqR ?_
      have hF := Option.some.inj hF
      subst hF
      exact ⟨.inr rfl, rfl, .int .i64 1, by kernel_rfl, WkV.flat0 (by kernel_rfl) (Nat.le_of_ble_eq_true rfl)⟩
    | false =>
      replace hF := of_neg hF rfl
      refine TS.condF' (o := (.tmp 3)) (x := c20.s2.s1.bd.s2.th) (y := c20.s2.s1.bd.s2.el) (by kernel_rfl) (by kernel_rfl) ?_
      refine TS.seq' (x := c20.s2.s1.bd.s2.el.s1) (y := c20.s2.s1.bd.s2.el.s2) (by kernel_rfl) ?_
      have hX := of_do hF
      clear hF
      obtain ⟨r6, h7, hF⟩ := hX
      refine TS.region' (id := 3) (b := false) (ops := c20.s2.s1.bd.s2.el.s1.rops) (by kernel_rfl) rfl ?_
      refine TI.run 4 [16, 18] [] (a2 := (st 21 [(16, .agg ⟨[.int .i64 p0, .int .i64 p1]⟩), (18, .agg ⟨[.int .i64 p2, .int .i64 p3]⟩)])) (h2 := [.dead]) (by kernel_rfl) ?_
      refine TI.callM (g := 59) (args := [.agg ⟨[.int .i64 p0, .int .i64 p1]⟩, .agg ⟨[.int .i64 p2, .int .i64 p3]⟩]) (v := .int .i64 r6) (new := []) (by kernel_rfl) (PureSim.any (C59 p0 p1 p2 p3 r6 h7) (flatL (by kernel_rfl)) (by kernel_rfl) [.dead]) [19] [] (a2 := (st 21 [(19, .int .i64 r6)])) (h2 := [.dead]) (by kernel_rfl) ?_
      refine TI.run 2 [14] [] (a2 := (st 21 [(14, .bool (r6 == 0))])) (h2 := [.dead]) (by kernel_rfl) ?_
      refine TI.done (by kernel_rfl) ?_
      refine NX.sq ?_
      refine TS.cond' (o := (.tmp 14)) (x := c20.s2.s1.bd.s2.el.s2.th) (y := c20.s2.s1.bd.s2.el.s2.el) (b := r6 == 0) (by kernel_rfl) (by kernel_rfl) (fun hc8 => ?_) (fun hc8 => ?_)
      · replace hF := of_pos hF hc8
        refine TS.seq' (x := c20.s2.s1.bd.s2.el.s2.th.s1) (y := c20.s2.s1.bd.s2.el.s2.th.s2) (by kernel_rfl) ?_
        refine TS.region' (id := 4) (b := false) (ops := c20.s2.s1.bd.s2.el.s2.th.s1.rops) (by kernel_rfl) rfl ?_
        refine TI.run 1 [2] [] (a2 := (st 21 [(2, .int .i64 15)])) (h2 := [.dead]) (by kernel_rfl) ?_
        refine TI.done (by kernel_rfl) ?_
        refine NX.sq ?_
        refine TS.ret' (by kernel_rfl) ?_
        refine NX.bkR ?_
        refine NX.sqR ?_
        have hF := Option.some.inj hF
        subst hF
        exact ⟨.inr rfl, rfl, .int .i64 15, by kernel_rfl, WkV.flat0 (by kernel_rfl) (Nat.le_of_ble_eq_true rfl)⟩
      · replace hF := of_neg hF hc8
        refine TS.skip' (by kernel_rfl) ?_
        refine NX.bk ?_
        refine NX.sq ?_
        refine TS.seq' (x := c20.s2.s2.s1) (y := c20.s2.s2.s2) (by kernel_rfl) ?_
        refine TS.region' (id := 5) (b := false) (ops := c20.s2.s2.s1.rops) (by kernel_rfl) rfl ?_
        refine TI.run 1 [2] [] (a2 := (st 21 [(2, .int .i64 0)])) (h2 := [.dead]) (by kernel_rfl) ?_
        refine TI.done (by kernel_rfl) ?_
        refine NX.sq ?_
        refine TS.ret' (by kernel_rfl) ?_
        have hF := Option.some.inj hF
        subst hF
        exact ⟨.inr rfl, rfl, .int .i64 0, by kernel_rfl, WkV.flat0 (by kernel_rfl) (Nat.le_of_ble_eq_true rfl)⟩
  cases r1 with
  | true =>
    replace hm9 := of_pos hm9 rfl
    have hX := of_do hm9
    clear hm9
    obtain ⟨r3, h4, hm9⟩ := hX
    cases r3 with
    | true =>
      replace hm9 := of_pos hm9 rfl
      have hm9 := Option.some.inj hm9
      subst hm9
      refine TS.region' (id := 1) (b := false) (ops := c20.s2.s1.bd.s1.rops) (by kernel_rfl) rfl ?_
      refine TI.run 2 [1, 5] [0] (a2 := (st 21 [(1, .pointer (some ⟨0, 0, none⟩)), (5, .agg ⟨[.int .i64 p0, .int .i64 p1]⟩)])) (h2 := [.cells 25 [.int .i64 p0, .int .i64 p1, .int .i64 p2, .int .i64 p3]]) (by kernel_rfl) ?_
      refine TI.callM (g := 58) (args := [.agg ⟨[.int .i64 p0, .int .i64 p1]⟩, .int .i64 1000]) (v := .bool true) (new := []) (by kernel_rfl) (PureSim.any (C58 p0 p1 1000 true h2) (flatL (by kernel_rfl)) (by kernel_rfl) [.cells 25 [.int .i64 p0, .int .i64 p1, .int .i64 p2, .int .i64 p3]]) [1, 6] [0] (a2 := (st 21 [(1, .pointer (some ⟨0, 0, none⟩)), (6, .bool true)])) (h2 := [.cells 25 [.int .i64 p0, .int .i64 p1, .int .i64 p2, .int .i64 p3]]) (by kernel_rfl) ?_
      refine TI.run 4 [1, 8, 10] [0] (a2 := (st 21 [(1, .pointer (some ⟨0, 0, none⟩)), (8, .bool false), (10, .agg ⟨[.int .i64 p2, .int .i64 p3]⟩)])) (h2 := [.cells 25 [.int .i64 p0, .int .i64 p1, .int .i64 p2, .int .i64 p3]]) (by kernel_rfl) ?_
      refine TI.callM (g := 58) (args := [.agg ⟨[.int .i64 p2, .int .i64 p3]⟩, .int .i64 1000]) (v := .bool true) (new := []) (by kernel_rfl) (PureSim.any (C58 p2 p3 1000 true h4) (flatL (by kernel_rfl)) (by kernel_rfl) [.cells 25 [.int .i64 p0, .int .i64 p1, .int .i64 p2, .int .i64 p3]]) [1, 8, 11] [0] (a2 := (st 21 [(1, .pointer (some ⟨0, 0, none⟩)), (8, .bool false), (11, .bool true)])) (h2 := [.cells 25 [.int .i64 p0, .int .i64 p1, .int .i64 p2, .int .i64 p3]]) (by kernel_rfl) ?_
      refine TI.run 3 [1, 3] [0] (a2 := (st 21 [(1, .pointer (some ⟨0, 0, none⟩)), (3, .bool false)])) (h2 := [.cells 25 [.int .i64 p0, .int .i64 p1, .int .i64 p2, .int .i64 p3]]) (by kernel_rfl) ?_
      refine TI.done (by kernel_rfl) ?_
      exact hK
    | false =>
      replace hm9 := of_neg hm9 rfl
      have hm9 := Option.some.inj hm9
      subst hm9
      refine TS.region' (id := 1) (b := false) (ops := c20.s2.s1.bd.s1.rops) (by kernel_rfl) rfl ?_
      refine TI.run 2 [1, 5] [0] (a2 := (st 21 [(1, .pointer (some ⟨0, 0, none⟩)), (5, .agg ⟨[.int .i64 p0, .int .i64 p1]⟩)])) (h2 := [.cells 25 [.int .i64 p0, .int .i64 p1, .int .i64 p2, .int .i64 p3]]) (by kernel_rfl) ?_
      refine TI.callM (g := 58) (args := [.agg ⟨[.int .i64 p0, .int .i64 p1]⟩, .int .i64 1000]) (v := .bool true) (new := []) (by kernel_rfl) (PureSim.any (C58 p0 p1 1000 true h2) (flatL (by kernel_rfl)) (by kernel_rfl) [.cells 25 [.int .i64 p0, .int .i64 p1, .int .i64 p2, .int .i64 p3]]) [1, 6] [0] (a2 := (st 21 [(1, .pointer (some ⟨0, 0, none⟩)), (6, .bool true)])) (h2 := [.cells 25 [.int .i64 p0, .int .i64 p1, .int .i64 p2, .int .i64 p3]]) (by kernel_rfl) ?_
      refine TI.run 4 [1, 8, 10] [0] (a2 := (st 21 [(1, .pointer (some ⟨0, 0, none⟩)), (8, .bool false), (10, .agg ⟨[.int .i64 p2, .int .i64 p3]⟩)])) (h2 := [.cells 25 [.int .i64 p0, .int .i64 p1, .int .i64 p2, .int .i64 p3]]) (by kernel_rfl) ?_
      refine TI.callM (g := 58) (args := [.agg ⟨[.int .i64 p2, .int .i64 p3]⟩, .int .i64 1000]) (v := .bool false) (new := []) (by kernel_rfl) (PureSim.any (C58 p2 p3 1000 false h4) (flatL (by kernel_rfl)) (by kernel_rfl) [.cells 25 [.int .i64 p0, .int .i64 p1, .int .i64 p2, .int .i64 p3]]) [1, 8, 11] [0] (a2 := (st 21 [(1, .pointer (some ⟨0, 0, none⟩)), (8, .bool false), (11, .bool false)])) (h2 := [.cells 25 [.int .i64 p0, .int .i64 p1, .int .i64 p2, .int .i64 p3]]) (by kernel_rfl) ?_
      refine TI.run 3 [1, 3] [0] (a2 := (st 21 [(1, .pointer (some ⟨0, 0, none⟩)), (3, .bool true)])) (h2 := [.cells 25 [.int .i64 p0, .int .i64 p1, .int .i64 p2, .int .i64 p3]]) (by kernel_rfl) ?_
      refine TI.done (by kernel_rfl) ?_
      exact hK
  | false =>
    replace hm9 := of_neg hm9 rfl
    have hm9 := Option.some.inj hm9
    subst hm9
    refine TS.region' (id := 1) (b := false) (ops := c20.s2.s1.bd.s1.rops) (by kernel_rfl) rfl ?_
    refine TI.run 2 [1, 5] [0] (a2 := (st 21 [(1, .pointer (some ⟨0, 0, none⟩)), (5, .agg ⟨[.int .i64 p0, .int .i64 p1]⟩)])) (h2 := [.cells 25 [.int .i64 p0, .int .i64 p1, .int .i64 p2, .int .i64 p3]]) (by kernel_rfl) ?_
    refine TI.callM (g := 58) (args := [.agg ⟨[.int .i64 p0, .int .i64 p1]⟩, .int .i64 1000]) (v := .bool false) (new := []) (by kernel_rfl) (PureSim.any (C58 p0 p1 1000 false h2) (flatL (by kernel_rfl)) (by kernel_rfl) [.cells 25 [.int .i64 p0, .int .i64 p1, .int .i64 p2, .int .i64 p3]]) [1, 6] [0] (a2 := (st 21 [(1, .pointer (some ⟨0, 0, none⟩)), (6, .bool false)])) (h2 := [.cells 25 [.int .i64 p0, .int .i64 p1, .int .i64 p2, .int .i64 p3]]) (by kernel_rfl) ?_
    refine TI.run 8 [1, 3] [0] (a2 := (st 21 [(1, .pointer (some ⟨0, 0, none⟩)), (3, .bool true)])) (h2 := [.cells 25 [.int .i64 p0, .int .i64 p1, .int .i64 p2, .int .i64 p3]]) (by kernel_rfl) ?_
    refine TI.done (by kernel_rfl) ?_
    exact hK
theorem C20 (p0 : Int) (p1 : Int) (p2 : Int) (p3 : Int) (r : Int) (hF : F20 p0 p1 p2 p3 = some r) : PureSim Try.prog 20 [.agg ⟨[.int .i64 p0, .int .i64 p1, .int .i64 p2, .int .i64 p3]⟩] [] (V20 0 r) (N20 0 r) :=
  PureSim.of_Fin Try.func20 (c := c20) (by kernel_rfl) (by kernel_rfl) 0 rfl [0] [] (by kernel_rfl) (B20 p0 p1 p2 p3 r hF)

-- (agonic/magnet.Choice).small
noncomputable def c77 : Code := Try.f77.code
def F77 (p0 : Int) (p1 : Int) : Option Bool :=
  F68 (-100000000) p0 100000000 >>= fun r1 =>
  (
    if r1 then
      F68 (-100000000) p1 100000000 >>= fun r3 =>
      some (r3)
    else
      some (false)
  : Option Bool) >>= fun m5 =>
  some m5
def V77 (b : Nat) (r : Bool) : Value := .bool r
def N77 (b : Nat) (r : Bool) : List Blk := []
theorem B77 (p0 : Int) (p1 : Int) (r : Bool) (hF : F77 p0 p1 = some r) : TS Try.prog 0 0 c77 (st 11 [(0, .agg ⟨[.int .i64 p0, .int .i64 p1]⟩)]) [] (NX Try.prog 0 0 [] (FinP Try.prog Try.f77 0 (V77 0 r) (N77 0 r))) := by
  unfold F77 at hF
  refine TS.seq' (x := c77.s1) (y := c77.s2) (by kernel_rfl) ?_
  refine TS.region' (id := 0) (b := false) (ops := c77.s1.rops) (by kernel_rfl) rfl ?_
  refine TI.run 2 [1] [0] (a2 := (st 11 [(1, .pointer (some ⟨0, 0, none⟩))])) (h2 := [.cells 27 [.int .i64 p0, .int .i64 p1]]) (by kernel_rfl) ?_
  refine TI.done (by kernel_rfl) ?_
  refine NX.sq ?_
  refine TS.seq' (x := c77.s2.s1) (y := c77.s2.s2) (by kernel_rfl) ?_
  have hX := of_do hF
  clear hF
  obtain ⟨r1, h2, hF⟩ := hX
  have hX := of_do hF
  clear hF
  obtain ⟨m5, hm6, hF⟩ := hX
  have hK : NX Try.prog 0 0 [.sq c77.s2.s2] (FinP Try.prog Try.f77 0 (V77 0 r) (N77 0 r)) .normal (st 11 [(2, .bool m5)]) [.dead] := by
    refine NX.sq ?_
    refine TS.ret' (by kernel_rfl) ?_
    have hF := Option.some.inj hF
    subst hF
    exact ⟨.inr rfl, rfl, .bool m5, by kernel_rfl, WkV.flat0 (by kernel_rfl) (Nat.le_of_ble_eq_true rfl)⟩
  cases r1 with
  | true =>
    replace hm6 := of_pos hm6 rfl
    have hX := of_do hm6
    clear hm6
    obtain ⟨r3, h4, hm6⟩ := hX
    have hm6 := Option.some.inj hm6
    subst hm6
    refine TS.region' (id := 1) (b := false) (ops := c77.s2.s1.rops) (by kernel_rfl) rfl ?_
    refine TI.run 2 [1, 4] [0] (a2 := (st 11 [(1, .pointer (some ⟨0, 0, none⟩)), (4, .int .i64 p0)])) (h2 := [.cells 27 [.int .i64 p0, .int .i64 p1]]) (by kernel_rfl) ?_
    refine TI.callM (g := 68) (args := [.int .i64 (-100000000), .int .i64 p0, .int .i64 100000000]) (v := .bool true) (new := []) (by kernel_rfl) (PureSim.any (C68 (-100000000) p0 100000000 true h2) (flatL (by kernel_rfl)) (by kernel_rfl) [.cells 27 [.int .i64 p0, .int .i64 p1]]) [1, 5] [0] (a2 := (st 11 [(1, .pointer (some ⟨0, 0, none⟩)), (5, .bool true)])) (h2 := [.cells 27 [.int .i64 p0, .int .i64 p1]]) (by kernel_rfl) ?_
    refine TI.run 3 [6, 8] [] (a2 := (st 11 [(6, .bool true), (8, .int .i64 p1)])) (h2 := [.dead]) (by kernel_rfl) ?_
    refine TI.callM (g := 68) (args := [.int .i64 (-100000000), .int .i64 p1, .int .i64 100000000]) (v := .bool r3) (new := []) (by kernel_rfl) (PureSim.any (C68 (-100000000) p1 100000000 r3 h4) (flatL (by kernel_rfl)) (by kernel_rfl) [.dead]) [6, 9] [] (a2 := (st 11 [(6, .bool true), (9, .bool r3)])) (h2 := [.dead]) (by kernel_rfl) ?_
    refine TI.run 2 [2] [] (a2 := (st 11 [(2, .bool r3)])) (h2 := [.dead]) (by kernel_rfl) ?_
    refine TI.done (by kernel_rfl) ?_
    exact hK
  | false =>
    replace hm6 := of_neg hm6 rfl
    have hm6 := Option.some.inj hm6
    subst hm6
    refine TS.region' (id := 1) (b := false) (ops := c77.s2.s1.rops) (by kernel_rfl) rfl ?_
    refine TI.run 2 [1, 4] [0] (a2 := (st 11 [(1, .pointer (some ⟨0, 0, none⟩)), (4, .int .i64 p0)])) (h2 := [.cells 27 [.int .i64 p0, .int .i64 p1]]) (by kernel_rfl) ?_
    refine TI.callM (g := 68) (args := [.int .i64 (-100000000), .int .i64 p0, .int .i64 100000000]) (v := .bool false) (new := []) (by kernel_rfl) (PureSim.any (C68 (-100000000) p0 100000000 false h2) (flatL (by kernel_rfl)) (by kernel_rfl) [.cells 27 [.int .i64 p0, .int .i64 p1]]) [1, 5] [0] (a2 := (st 11 [(1, .pointer (some ⟨0, 0, none⟩)), (5, .bool false)])) (h2 := [.cells 27 [.int .i64 p0, .int .i64 p1]]) (by kernel_rfl) ?_
    refine TI.run 6 [2] [] (a2 := (st 11 [(2, .bool false)])) (h2 := [.dead]) (by kernel_rfl) ?_
    refine TI.done (by kernel_rfl) ?_
    exact hK
theorem C77 (p0 : Int) (p1 : Int) (r : Bool) (hF : F77 p0 p1 = some r) : PureSim Try.prog 77 [.agg ⟨[.int .i64 p0, .int .i64 p1]⟩] [] (V77 0 r) (N77 0 r) :=
  PureSim.of_Fin Try.func77 (c := c77) (by kernel_rfl) (by kernel_rfl) 0 rfl [0] [] (by kernel_rfl) (B77 p0 p1 r hF)

-- (agonic/magnet.Kit).check$1
noncomputable def c76 : Code := Try.f76.code
def F76 (p0 : Int) (p1 : Int) : Option Bool :=
  F77 p0 p1 >>= fun r1 =>
  (
    if r1 then
      some (false)
    else
      some (true)
  : Option Bool) >>= fun m3 =>
  some m3
def V76 (b : Nat) (r : Bool) : Value := .bool r
def N76 (b : Nat) (r : Bool) : List Blk := []
theorem B76 (p0 : Int) (p1 : Int) (r : Bool) (hF : F76 p0 p1 = some r) : TS Try.prog 0 0 c76 (st 6 [(0, .agg ⟨[.int .i64 p0, .int .i64 p1]⟩)]) [] (NX Try.prog 0 0 [] (FinP Try.prog Try.f76 0 (V76 0 r) (N76 0 r))) := by
  unfold F76 at hF
  refine TS.seq' (x := c76.s1) (y := c76.s2) (by kernel_rfl) ?_
  refine TS.region' (id := 0) (b := false) (ops := c76.s1.rops) (by kernel_rfl) rfl ?_
  refine TI.run 2 [1] [0] (a2 := (st 6 [(1, .pointer (some ⟨0, 0, none⟩))])) (h2 := [.cells 27 [.int .i64 p0, .int .i64 p1]]) (by kernel_rfl) ?_
  refine TI.done (by kernel_rfl) ?_
  refine NX.sq ?_
  refine TS.seq' (x := c76.s2.s1) (y := c76.s2.s2) (by kernel_rfl) ?_
  have hX := of_do hF
  clear hF
  obtain ⟨r1, h2, hF⟩ := hX
  have hX := of_do hF
  clear hF
  obtain ⟨m3, hm4, hF⟩ := hX
  have hK : NX Try.prog 0 0 [.sq c76.s2.s2] (FinP Try.prog Try.f76 0 (V76 0 r) (N76 0 r)) .normal (st 6 [(2, .bool m3)]) [.dead] := by
    refine NX.sq ?_
    refine TS.ret' (by kernel_rfl) ?_
    have hF := Option.some.inj hF
    subst hF
    exact ⟨.inr rfl, rfl, .bool m3, by kernel_rfl, WkV.flat0 (by kernel_rfl) (Nat.le_of_ble_eq_true rfl)⟩
  cases r1 with
  | true =>
    replace hm4 := of_pos hm4 rfl
    have hm4 := Option.some.inj hm4
    subst hm4
    refine TS.region' (id := 1) (b := false) (ops := c76.s2.s1.rops) (by kernel_rfl) rfl ?_
    refine TI.run 1 [3] [] (a2 := (st 6 [(3, .agg ⟨[.int .i64 p0, .int .i64 p1]⟩)])) (h2 := [.dead]) (by kernel_rfl) ?_
    refine TI.callM (g := 77) (args := [.agg ⟨[.int .i64 p0, .int .i64 p1]⟩]) (v := .bool true) (new := []) (by kernel_rfl) (PureSim.any (C77 p0 p1 true h2) (flatL (by kernel_rfl)) (by kernel_rfl) [.dead]) [4] [] (a2 := (st 6 [(4, .bool true)])) (h2 := [.dead]) (by kernel_rfl) ?_
    refine TI.run 2 [2] [] (a2 := (st 6 [(2, .bool false)])) (h2 := [.dead]) (by kernel_rfl) ?_
    refine TI.done (by kernel_rfl) ?_
    exact hK
  | false =>
    replace hm4 := of_neg hm4 rfl
    have hm4 := Option.some.inj hm4
    subst hm4
    refine TS.region' (id := 1) (b := false) (ops := c76.s2.s1.rops) (by kernel_rfl) rfl ?_
    refine TI.run 1 [3] [] (a2 := (st 6 [(3, .agg ⟨[.int .i64 p0, .int .i64 p1]⟩)])) (h2 := [.dead]) (by kernel_rfl) ?_
    refine TI.callM (g := 77) (args := [.agg ⟨[.int .i64 p0, .int .i64 p1]⟩]) (v := .bool false) (new := []) (by kernel_rfl) (PureSim.any (C77 p0 p1 false h2) (flatL (by kernel_rfl)) (by kernel_rfl) [.dead]) [4] [] (a2 := (st 6 [(4, .bool false)])) (h2 := [.dead]) (by kernel_rfl) ?_
    refine TI.run 2 [2] [] (a2 := (st 6 [(2, .bool true)])) (h2 := [.dead]) (by kernel_rfl) ?_
    refine TI.done (by kernel_rfl) ?_
    exact hK
theorem C76 (p0 : Int) (p1 : Int) (r : Bool) (hF : F76 p0 p1 = some r) : PureSim Try.prog 76 [.agg ⟨[.int .i64 p0, .int .i64 p1]⟩] [] (V76 0 r) (N76 0 r) :=
  PureSim.of_Fin Try.func76 (c := c76) (by kernel_rfl) (by kernel_rfl) 0 rfl [0] [] (by kernel_rfl) (B76 p0 p1 r hF)

-- slices.IndexFunc[[]agonic/magnet.Choice,agonic/magnet.Choice]
noncomputable def c84 : Code := Try.f84.code
def F84l0 (p0 : (List (Int × Int))) (v7 : Int) : Option (Int ⊕ Unit) :=
    if decide (v7 < (List.length p0 : Int)) then
      if (0 : Int) ≤ v7 ∧ v7 < (List.length p0 : Int) then
        some (List.getD p0 (Int.toNat v7) (0, 0)) >>= fun o17 =>
        F76 o17.1 o17.2 >>= fun r19 =>
        if r19 then
          some (.inl v7)
        else
          F84l0 p0 (w64 (v7 + 1))
      else none
    else
      some (.inr ())
  partial_fixpoint
def F84 (p0 : (List (Int × Int))) : Option Int :=
  F84l0 p0 0 >>= fun r21 =>
  match r21 with
  | .inl o23 =>
    some o23
  | .inr o24 =>
    some (-1)
def V84 (b : Nat) (r : Int) : Value := .int .i64 r
def N84 (b : Nat) (r : Int) : List Blk := []
def P84l0 (p0 : (List (Int × Int))) (r : (Int ⊕ Unit)) : Post := fun e a h => (match r with | .inl q0 => e = .ret ∧ Wk Try.prog 1 1 a h (st 19 [(4, .int .i64 q0)]) [accB 27 (List.length p0) (List.flatMap e27 p0)] | .inr q0 => e = .exit 0 ∧ Wk Try.prog 1 1 a h (st 19 []) [accB 27 (List.length p0) (List.flatMap e27 p0)])
theorem L84l0 (p0 : (List (Int × Int))) (v7 : Int) (r : (Int ⊕ Unit)) (hF : F84l0 p0 v7 = some r) : TL Try.prog 1 1 c84.s2.s1.s2.bd.bd (st 19 [(0, .slice (some ⟨0, 0, none⟩) (List.length p0) ANY), (1, .func (.func 76) ⟨[]⟩ ⟨[]⟩), (7, .int .i64 (List.length p0 : Int)), (8, .int .i64 v7)]) [accB 27 (List.length p0) (List.flatMap e27 p0)] (P84l0 p0 r) := by
  refine F84l0.partial_correctness p0 (motive := fun v7 r => TL Try.prog 1 1 c84.s2.s1.s2.bd.bd (st 19 [(0, .slice (some ⟨0, 0, none⟩) (List.length p0) ANY), (1, .func (.func 76) ⟨[]⟩ ⟨[]⟩), (7, .int .i64 (List.length p0 : Int)), (8, .int .i64 v7)]) [accB 27 (List.length p0) (List.flatMap e27 p0)] (P84l0 p0 r)) ?_ v7 r hF
  clear hF r v7
  intro again ih v7 r hF
  refine TL.round ?_
  refine TS.seq' (x := c84.s2.s1.s2.bd.bd.s1) (y := c84.s2.s1.s2.bd.bd.s2) (by kernel_rfl) ?_
  refine TS.region' (id := 2) (b := false) (ops := c84.s2.s1.s2.bd.bd.s1.rops) (by kernel_rfl) rfl ?_
  refine TI.run 1 [0, 1, 7, 8, 9] [0] (a2 := (st 19 [(0, .slice (some ⟨0, 0, none⟩) (List.length p0) ANY), (1, .func (.func 76) ⟨[]⟩ ⟨[]⟩), (7, .int .i64 (List.length p0 : Int)), (8, .int .i64 v7), (9, .bool (decide (v7 < (List.length p0 : Int))))])) (h2 := [accB 27 (List.length p0) (List.flatMap e27 p0)]) (by kernel_rfl) ?_
  refine TI.done (by kernel_rfl) ?_
  refine NX.sq ?_
  refine TS.seq' (x := c84.s2.s1.s2.bd.bd.s2.s1) (y := c84.s2.s1.s2.bd.bd.s2.s2) (by kernel_rfl) ?_
  refine TS.cond' (o := (.tmp 9)) (x := c84.s2.s1.s2.bd.bd.s2.s1.th) (y := c84.s2.s1.s2.bd.bd.s2.s1.el) (b := decide (v7 < (List.length p0 : Int))) (by kernel_rfl) (by kernel_rfl) (fun hc15 => ?_) (fun hc15 => ?_)
  · replace hF := of_pos hF hc15
    refine TS.skip' (by kernel_rfl) ?_
    refine NX.sq ?_
    refine TS.seq' (x := c84.s2.s1.s2.bd.bd.s2.s2.s1) (y := c84.s2.s1.s2.bd.bd.s2.s2.s2) (by kernel_rfl) ?_
    refine TS.block' (id := 1) (x := c84.s2.s1.s2.bd.bd.s2.s2.s1.bd) (by kernel_rfl) ?_
    refine TS.seq' (x := c84.s2.s1.s2.bd.bd.s2.s2.s1.bd.s1) (y := c84.s2.s1.s2.bd.bd.s2.s2.s1.bd.s2) (by kernel_rfl) ?_
    refine TS.region' (id := 3) (b := false) (ops := c84.s2.s1.s2.bd.bd.s2.s2.s1.bd.s1.rops) (by kernel_rfl) rfl ?_
    refine TI.run 2 [0, 1, 5, 7, 8] [0] (a2 := (st 19 [(0, .slice (some ⟨0, 0, none⟩) (List.length p0) ANY), (1, .func (.func 76) ⟨[]⟩ ⟨[]⟩), (5, .int .i64 v7), (7, .int .i64 (List.length p0 : Int)), (8, .int .i64 v7)])) (h2 := [accB 27 (List.length p0) (List.flatMap e27 p0)]) (by kernel_rfl) ?_
    refine TI.done (by kernel_rfl) ?_
    refine NX.sq ?_
    refine TS.seq' (x := c84.s2.s1.s2.bd.bd.s2.s2.s1.bd.s2.s1) (y := c84.s2.s1.s2.bd.bd.s2.s2.s1.bd.s2.s2) (by kernel_rfl) ?_
    have hX := of_guard hF
    clear hF
    obtain ⟨hg16, hF⟩ := hX
    have hX := of_do hF
    clear hF
    obtain ⟨o17, h18, hF⟩ := hX
    replace h18 := Option.some.inj h18
    have hX := of_do hF
    clear hF
    obtain ⟨r19, h20, hF⟩ := hX
    refine TS.region' (id := 4) (b := false) (ops := c84.s2.s1.s2.bd.bd.s2.s2.s1.bd.s2.s1.rops) (by kernel_rfl) rfl ?_
    refine TI.run 3 [0, 1, 5, 7, 8, 11, 12, 13] [0] (a2 := (st 19 [(0, .slice (some ⟨0, 0, none⟩) (List.length p0) ANY), (1, .func (.func 76) ⟨[]⟩ ⟨[]⟩), (5, .int .i64 v7), (7, .int .i64 (List.length p0 : Int)), (8, .int .i64 v7), (11, .func (.func 76) ⟨[]⟩ ⟨[]⟩), (12, .slice (some ⟨0, 0, none⟩) (List.length p0) ANY), (13, .int .i64 v7)])) (h2 := [accB 27 (List.length p0) (List.flatMap e27 p0)]) (by kernel_rfl) ?_
    refine TI.op (q := { val := .pointer (some ⟨0, 0 + (Int.toNat v7) * 2, none⟩) }) (q_ixS 0 0 ((Int.toNat v7) * 2) (by kernel_rfl) hg16) [0, 1, 5, 7, 8, 11, 14] [0] (a2 := (st 19 [(0, .slice (some ⟨0, 0, none⟩) (List.length p0) ANY), (1, .func (.func 76) ⟨[]⟩ ⟨[]⟩), (5, .int .i64 v7), (7, .int .i64 (List.length p0 : Int)), (8, .int .i64 v7), (11, .func (.func 76) ⟨[]⟩ ⟨[]⟩), (14, .pointer (some ⟨0, 0 + (Int.toNat v7) * 2, none⟩))])) (h2 := [accB 27 (List.length p0) (List.flatMap e27 p0)]) (by kernel_rfl) ?_
    refine TI.op (q := { val := .agg ⟨[.int .i64 o17.1, .int .i64 o17.2]⟩ }) (q_eqv (q_ldA (P := Try.prog) (hp := [accB 27 (List.length p0) (List.flatMap e27 p0)]) (t := 27) (b := 0) (off := 0 + (Int.toNat v7) * 2) (l := p0) (enc := e27) (s := 2) (T := 27) (i := Int.toNat v7) (by kernel_rfl) (accB_at (h := [accB 27 (List.length p0) (List.flatMap e27 p0)]) (n := List.length p0) (i := Int.toNat v7) (by kernel_rfl) (by first | omega | (simp only [List.length_set, List.length_replicate, List.length_cons, List.length_nil, List.length_append]; omega))) (by kernel_rfl) (by kernel_rfl) (fun _ => rfl) (by omega) (by first | omega | (simp only [List.length_set, List.length_replicate, List.length_cons, List.length_nil, List.length_append]; omega)) (0, 0)) (congrArg (fun (z : (Int × Int)) => ({ val := .agg ⟨[.int .i64 z.1, .int .i64 z.2]⟩ } : QRes)) h18)) [0, 1, 5, 7, 8, 11, 15] [0] (a2 := (st 19 [(0, .slice (some ⟨0, 0, none⟩) (List.length p0) ANY), (1, .func (.func 76) ⟨[]⟩ ⟨[]⟩), (5, .int .i64 v7), (7, .int .i64 (List.length p0 : Int)), (8, .int .i64 v7), (11, .func (.func 76) ⟨[]⟩ ⟨[]⟩), (15, .agg ⟨[.int .i64 o17.1, .int .i64 o17.2]⟩)])) (h2 := [accB 27 (List.length p0) (List.flatMap e27 p0)]) (by kernel_rfl) ?_
    refine TI.callM (g := 76) (args := [.agg ⟨[.int .i64 o17.1, .int .i64 o17.2]⟩]) (v := .bool r19) (new := []) (by kernel_rfl) (PureSim.any (C76 o17.1 o17.2 r19 h20) (flatL (by kernel_rfl)) (by kernel_rfl) [accB 27 (List.length p0) (List.flatMap e27 p0)]) [0, 1, 5, 7, 8, 16] [0] (a2 := (st 19 [(0, .slice (some ⟨0, 0, none⟩) (List.length p0) ANY), (1, .func (.func 76) ⟨[]⟩ ⟨[]⟩), (5, .int .i64 v7), (7, .int .i64 (List.length p0 : Int)), (8, .int .i64 v7), (16, .bool r19)])) (h2 := [accB 27 (List.length p0) (List.flatMap e27 p0)]) (by kernel_rfl) ?_
    refine TI.done (by kernel_rfl) ?_
    refine NX.sq ?_
    cases r19 with
    | true =>
      replace hF := of_pos hF rfl
      refine TS.condT' (o := (.tmp 16)) (x := c84.s2.s1.s2.bd.bd.s2.s2.s1.bd.s2.s2.th) (y := c84.s2.s1.s2.bd.bd.s2.s2.s1.bd.s2.s2.el) (by kernel_rfl) (by kernel_rfl) ?_
      refine TS.seq' (x := c84.s2.s1.s2.bd.bd.s2.s2.s1.bd.s2.s2.th.s1) (y := c84.s2.s1.s2.bd.bd.s2.s2.s1.bd.s2.s2.th.s2) (by kernel_rfl) ?_
      refine TS.region' (id := 5) (b := false) (ops := c84.s2.s1.s2.bd.bd.s2.s2.s1.bd.s2.s2.th.s1.rops) (by kernel_rfl) rfl ?_
      refine TI.run 2 [4] [0] (a2 := (st 19 [(4, .int .i64 v7)])) (h2 := [accB 27 (List.length p0) (List.flatMap e27 p0)]) (by kernel_rfl) ?_
      refine TI.done (by kernel_rfl) ?_
      refine NX.sq ?_
      refine TS.ret' (by kernel_rfl) ?_
      refine NX.bkR ?_
      refine NX.sqR ?_
      have hF := Option.some.inj hF
      subst hF
      exact Rd.out (e := .ret) (by intro h; cases h) (And.intro rfl (Wk.anew (base := 1) (L := 1) (f := []) (by decide) (by decide) (Nat.le_of_ble_eq_true rfl) rfl (.cons (At.acc (by kernel_rfl) rfl (fun _ => rfl)) (.nil _)) (LRn.stx [4] [.int .i64 v7] [.int .i64 v7] (.cons (.flat (by kernel_rfl)) .nil) (by kernel_rfl) (by kernel_rfl) rfl) rfl rfl))
    | false =>
      replace hF := of_neg hF rfl
      refine TS.condF' (o := (.tmp 16)) (x := c84.s2.s1.s2.bd.bd.s2.s2.s1.bd.s2.s2.th) (y := c84.s2.s1.s2.bd.bd.s2.s2.s1.bd.s2.s2.el) (by kernel_rfl) (by kernel_rfl) ?_
      refine TS.skip' (by kernel_rfl) ?_
      refine NX.bk ?_
      refine NX.sq ?_
      refine TS.region' (id := 6) (b := false) (ops := c84.s2.s1.s2.bd.bd.s2.s2.s2.rops) (by kernel_rfl) rfl ?_
      refine TI.run 2 [0, 1, 7, 8] [0] (a2 := (st 19 [(0, .slice (some ⟨0, 0, none⟩) (List.length p0) ANY), (1, .func (.func 76) ⟨[]⟩ ⟨[]⟩), (7, .int .i64 (List.length p0 : Int)), (8, .int .i64 (w64 (v7 + 1)))])) (h2 := [accB 27 (List.length p0) (List.flatMap e27 p0)]) (by kernel_rfl) ?_
      refine TI.done (by kernel_rfl) ?_
      exact Rd.again (a2 := (st 19 [(0, .slice (some ⟨0, 0, none⟩) (List.length p0) ANY), (1, .func (.func 76) ⟨[]⟩ ⟨[]⟩), (7, .int .i64 (List.length p0 : Int)), (8, .int .i64 (w64 (v7 + 1)))])) (h2 := [accB 27 (List.length p0) (List.flatMap e27 p0)]) (Wk.anew (base := 1) (L := 1) (f := []) (by decide) (by decide) (Nat.le_of_ble_eq_true rfl) rfl (.cons (At.acc (by kernel_rfl) rfl (fun _ => rfl)) (.nil _)) (LRn.stx [0, 1, 7, 8] [.slice (some ⟨0, 0, none⟩) (List.length p0) ANY, .func (.func 76) ⟨[]⟩ ⟨[]⟩, .int .i64 (List.length p0 : Int), .int .i64 (w64 (v7 + 1))] [.slice (some ⟨0, 0, none⟩) (List.length p0) ANY, .func (.func 76) ⟨[]⟩ ⟨[]⟩, .int .i64 (List.length p0 : Int), .int .i64 (w64 (v7 + 1))] (.cons (Rn.slice0 _ _ _ _ (Nat.le_of_ble_eq_true rfl) rfl) (.cons (Rn.func' .nil .nil) (.cons (.flat (by kernel_rfl)) (.cons (.flat (by kernel_rfl)) .nil)))) (by kernel_rfl) (by kernel_rfl) rfl) rfl rfl) (ih (w64 (v7 + 1)) _ hF)
  · replace hF := of_neg hF hc15
    refine TS.exit' (id := 0) (by kernel_rfl) ?_
    refine NX.sqX ?_
    have hF := Option.some.inj hF
    subst hF
    exact Rd.out (e := .exit 0) (by intro h; cases h) (And.intro rfl (Wk.anew (base := 1) (L := 1) (f := []) (by decide) (by decide) (Nat.le_of_ble_eq_true rfl) rfl (.cons (At.acc (by kernel_rfl) rfl (fun _ => rfl)) (.nil _)) (LRn.stx [] [] [] .nil (by kernel_rfl) (by kernel_rfl) rfl) rfl rfl))
theorem B84 (p0 : (List (Int × Int))) (r : Int) (hF : F84 p0 = some r) : TS Try.prog 1 1 c84 (st 19 [(0, .slice (some ⟨0, 0, none⟩) (List.length p0) ANY), (1, .func (.func 76) ⟨[]⟩ ⟨[]⟩)]) [accB 27 (List.length p0) (List.flatMap e27 p0)] (NX Try.prog 1 1 [] (FinP Try.prog Try.f84 1 (V84 1 r) (N84 1 r))) := by
  unfold F84 at hF
  refine TS.seq' (x := c84.s1) (y := c84.s2) (by kernel_rfl) ?_
  refine TS.region' (id := 0) (b := false) (ops := c84.s1.rops) (by kernel_rfl) rfl ?_
  refine TI.run 1 [0, 1] [0] (a2 := (st 19 [(0, .slice (some ⟨0, 0, none⟩) (List.length p0) ANY), (1, .func (.func 76) ⟨[]⟩ ⟨[]⟩)])) (h2 := [accB 27 (List.length p0) (List.flatMap e27 p0)]) (by kernel_rfl) ?_
  refine TI.done (by kernel_rfl) ?_
  refine NX.sq ?_
  refine TS.seq' (x := c84.s2.s1) (y := c84.s2.s2) (by kernel_rfl) ?_
  refine TS.seq' (x := c84.s2.s1.s1) (y := c84.s2.s1.s2) (by kernel_rfl) ?_
  refine TS.region' (id := 1) (b := false) (ops := c84.s2.s1.s1.rops) (by kernel_rfl) rfl ?_
  refine TI.run 3 [0, 1, 7, 8] [0] (a2 := (st 19 [(0, .slice (some ⟨0, 0, none⟩) (List.length p0) ANY), (1, .func (.func 76) ⟨[]⟩ ⟨[]⟩), (7, .int .i64 (List.length p0 : Int)), (8, .int .i64 0)])) (h2 := [accB 27 (List.length p0) (List.flatMap e27 p0)]) (by kernel_rfl) ?_
  refine TI.done (by kernel_rfl) ?_
  refine NX.sq ?_
  refine TS.block' (id := 0) (x := c84.s2.s1.s2.bd) (by kernel_rfl) ?_
  have hX := of_do hF
  clear hF
  obtain ⟨r21, h22, hF⟩ := hX
  refine TS.loop' (x := c84.s2.s1.s2.bd.bd) (by kernel_rfl) (TL.weak (a2 := (st 19 [(0, .slice (some ⟨0, 0, none⟩) (List.length p0) ANY), (1, .func (.func 76) ⟨[]⟩ ⟨[]⟩), (7, .int .i64 (List.length p0 : Int)), (8, .int .i64 0)])) (h2 := [accB 27 (List.length p0) (List.flatMap e27 p0)]) (Wk.anew (base := 1) (L := 1) (f := []) (by decide) (by decide) (Nat.le_of_ble_eq_true rfl) rfl (.cons (At.acc (by kernel_rfl) rfl (fun _ => rfl)) (.nil _)) (LRn.stx [0, 1, 7, 8] [.slice (some ⟨0, 0, none⟩) (List.length p0) ANY, .func (.func 76) ⟨[]⟩ ⟨[]⟩, .int .i64 (List.length p0 : Int), .int .i64 0] [.slice (some ⟨0, 0, none⟩) (List.length p0) ANY, .func (.func 76) ⟨[]⟩ ⟨[]⟩, .int .i64 (List.length p0 : Int), .int .i64 0] (.cons (Rn.slice0 _ _ _ _ (Nat.le_of_ble_eq_true rfl) rfl) (.cons (Rn.func' .nil .nil) (.cons (.flat (by kernel_rfl)) (.cons (.flat (by kernel_rfl)) .nil)))) (by kernel_rfl) (by kernel_rfl) rfl) rfl rfl) (TL.post (L84l0 p0 0 r21 h22) ?_))
  rintro e a1 h1 hp
  rcases r21 with o23 | o24
  · skip
    obtain ⟨rfl, hw⟩ := hp
    refine ⟨(st 19 [(4, .int .i64 o23)]), [accB 27 (List.length p0) (List.flatMap e27 p0)], ?_, hw⟩
    refine NX.bkR ?_
    refine NX.sqR ?_
    have hF := Option.some.inj hF
    subst hF
    exact ⟨.inr rfl, rfl, .int .i64 o23, by kernel_rfl, WkV.flat0 (by kernel_rfl) (Nat.le_of_ble_eq_true rfl)⟩
  · skip
    obtain ⟨rfl, hw⟩ := hp
    refine ⟨(st 19 []), [accB 27 (List.length p0) (List.flatMap e27 p0)], ?_, hw⟩
    refine NX.bkX ?_
    refine NX.sq ?_
    refine TS.seq' (x := c84.s2.s2.s1) (y := c84.s2.s2.s2) (by kernel_rfl) ?_
    refine TS.region' (id := 7) (b := false) (ops := c84.s2.s2.s1.rops) (by kernel_rfl) rfl ?_
    refine TI.run 1 [4] [0] (a2 := (st 19 [(4, .int .i64 (-1))])) (h2 := [accB 27 (List.length p0) (List.flatMap e27 p0)]) (by kernel_rfl) ?_
    refine TI.done (by kernel_rfl) ?_
    refine NX.sq ?_
    refine TS.ret' (by kernel_rfl) ?_
    have hF := Option.some.inj hF
    subst hF
    exact ⟨.inr rfl, rfl, .int .i64 (-1), by kernel_rfl, WkV.flat0 (by kernel_rfl) (Nat.le_of_ble_eq_true rfl)⟩
theorem C84 (p0 : (List (Int × Int))) (r : Int) (hF : F84 p0 = some r) : PureSim Try.prog 84 [.slice (some ⟨0, 0, none⟩) (List.length p0) ANY, .func (.func 76) ⟨[]⟩ ⟨[]⟩] [accB 27 (List.length p0) (List.flatMap e27 p0)] (V84 1 r) (N84 1 r) :=
  PureSim.of_Fin Try.func84 (c := c84) (by kernel_rfl) (by kernel_rfl) 1 rfl [0, 1] [0] (by kernel_rfl) (B84 p0 r hF)

-- slices.ContainsFunc[[]agonic/magnet.Choice,agonic/magnet.Choice]
noncomputable def c75 : Code := Try.f75.code
def F75 (p0 : (List (Int × Int))) : Option Bool :=
  F84 p0 >>= fun r1 =>
  some (decide (r1 ≥ 0))
def V75 (b : Nat) (r : Bool) : Value := .bool r
def N75 (b : Nat) (r : Bool) : List Blk := []
theorem B75 (p0 : (List (Int × Int))) (r : Bool) (hF : F75 p0 = some r) : TS Try.prog 1 1 c75 (st 9 [(0, .slice (some ⟨0, 0, none⟩) (List.length p0) ANY), (1, .func (.func 76) ⟨[]⟩ ⟨[]⟩)]) [accB 27 (List.length p0) (List.flatMap e27 p0)] (NX Try.prog 1 1 [] (FinP Try.prog Try.f75 1 (V75 1 r) (N75 1 r))) := by
  unfold F75 at hF
  refine TS.seq' (x := c75.s1) (y := c75.s2) (by kernel_rfl) ?_
  refine TS.region' (id := 0) (b := false) (ops := c75.s1.rops) (by kernel_rfl) rfl ?_
  refine TI.run 1 [0, 1] [0] (a2 := (st 9 [(0, .slice (some ⟨0, 0, none⟩) (List.length p0) ANY), (1, .func (.func 76) ⟨[]⟩ ⟨[]⟩)])) (h2 := [accB 27 (List.length p0) (List.flatMap e27 p0)]) (by kernel_rfl) ?_
  refine TI.done (by kernel_rfl) ?_
  refine NX.sq ?_
  refine TS.seq' (x := c75.s2.s1) (y := c75.s2.s2) (by kernel_rfl) ?_
  have hX := of_do hF
  clear hF
  obtain ⟨r1, h2, hF⟩ := hX
  refine TS.region' (id := 1) (b := false) (ops := c75.s2.s1.rops) (by kernel_rfl) rfl ?_
  refine TI.run 2 [5, 6] [0] (a2 := (st 9 [(5, .slice (some ⟨0, 0, none⟩) (List.length p0) ANY), (6, .func (.func 76) ⟨[]⟩ ⟨[]⟩)])) (h2 := [accB 27 (List.length p0) (List.flatMap e27 p0)]) (by kernel_rfl) ?_
  refine TI.callM (g := 84) (args := [.slice (some ⟨0, 0, none⟩) (List.length p0) ANY, .func (.func 76) ⟨[]⟩ ⟨[]⟩]) (v := .int .i64 r1) (new := []) (by kernel_rfl) (PureSim.ren (hc := [accB 27 (List.length p0) (List.flatMap e27 p0)]) (fun i => List.getD [(0, 0)] i (0, 0)) (C84 p0 r1 h2) (.cons (At.acc (by kernel_rfl) rfl (fun _ => rfl)) (.nil _)) (.cons (Rn.any _ _ _ _ _ _ (Nat.le_of_ble_eq_true rfl) rfl rfl (by decide)) (.cons (Rn.func' .nil .nil) .nil)) (.flat (by kernel_rfl)) newflat_nil) [7] [0] (a2 := (st 9 [(7, .int .i64 r1)])) (h2 := [accB 27 (List.length p0) (List.flatMap e27 p0)]) (by kernel_rfl) ?_
  refine TI.run 2 [4] [0] (a2 := (st 9 [(4, .bool (decide (r1 ≥ 0)))])) (h2 := [accB 27 (List.length p0) (List.flatMap e27 p0)]) (by kernel_rfl) ?_
  refine TI.done (by kernel_rfl) ?_
  refine NX.sq ?_
  refine TS.ret' (by kernel_rfl) ?_
  have hF := Option.some.inj hF
  subst hF
  exact ⟨.inr rfl, rfl, .bool (decide (r1 ≥ 0)), by kernel_rfl, WkV.flat0 (by kernel_rfl) (Nat.le_of_ble_eq_true rfl)⟩
theorem C75 (p0 : (List (Int × Int))) (r : Bool) (hF : F75 p0 = some r) : PureSim Try.prog 75 [.slice (some ⟨0, 0, none⟩) (List.length p0) ANY, .func (.func 76) ⟨[]⟩ ⟨[]⟩] [accB 27 (List.length p0) (List.flatMap e27 p0)] (V75 1 r) (N75 1 r) :=
  PureSim.of_Fin Try.func75 (c := c75) (by kernel_rfl) (by kernel_rfl) 1 rfl [0, 1] [0] (by kernel_rfl) (B75 p0 r hF)

-- (agonic/magnet.Kit).check
noncomputable def c52 : Code := Try.f52.code
def F52 (p0 : Int) (p1 : Int) (p2 : Int) (p3 : Int) (p4 : Int) (p5 : Int) (p6 : (List (Int × Int))) : Option Int :=
  F20 p0 p1 p2 p3 >>= fun r1 =>
  if r1 != 0 then
    some r1
  else
    F58 p4 p5 10000 >>= fun r4 =>
    (
      if r4 then
        F75 p6 >>= fun r6 =>
        some (r6)
      else
        some (true)
    : Option Bool) >>= fun m8 =>
    if m8 then
      some 1
    else
      some 0
def V52 (b : Nat) (r : Int) : Value := .int .i64 r
def N52 (b : Nat) (r : Int) : List Blk := []
theorem B52 (p0 : Int) (p1 : Int) (p2 : Int) (p3 : Int) (p4 : Int) (p5 : Int) (p6 : (List (Int × Int))) (r : Int) (hF : F52 p0 p1 p2 p3 p4 p5 p6 = some r) : TS Try.prog 1 1 c52 (st 20 [(0, .agg ⟨[.int .i64 p0, .int .i64 p1, .int .i64 p2, .int .i64 p3]⟩), (1, .agg ⟨[.int .i64 p4, .int .i64 p5]⟩), (2, .slice (some ⟨0, 0, none⟩) (List.length p6) ANY)]) [accB 27 (List.length p6) (List.flatMap e27 p6)] (NX Try.prog 1 1 [] (FinP Try.prog Try.f52 1 (V52 1 r) (N52 1 r))) := by
  unfold F52 at hF
  refine TS.seq' (x := c52.s1) (y := c52.s2) (by kernel_rfl) ?_
  refine TS.region' (id := 0) (b := false) (ops := c52.s1.rops) (by kernel_rfl) rfl ?_
  refine TI.run 3 [2, 3, 4] [0, 1, 2] (a2 := (st 20 [(2, .slice (some ⟨0, 0, none⟩) (List.length p6) ANY), (3, .pointer (some ⟨1, 0, none⟩)), (4, .pointer (some ⟨2, 0, none⟩))])) (h2 := [accB 27 (List.length p6) (List.flatMap e27 p6), .cells 25 [.int .i64 p0, .int .i64 p1, .int .i64 p2, .int .i64 p3], .cells 23 [.int .i64 p4, .int .i64 p5]]) (by kernel_rfl) ?_
  refine TI.done (by kernel_rfl) ?_
  refine NX.sq ?_
  refine TS.seq' (x := c52.s2.s1) (y := c52.s2.s2) (by kernel_rfl) ?_
  refine TS.seq' (x := c52.s2.s1.s1) (y := c52.s2.s1.s2) (by kernel_rfl) ?_
  have hX := of_do hF
  clear hF
  obtain ⟨r1, h2, hF⟩ := hX
  refine TS.region' (id := 1) (b := false) (ops := c52.s2.s1.s1.rops) (by kernel_rfl) rfl ?_
  refine TI.run 1 [2, 4, 8] [0, 2] (a2 := (st 20 [(2, .slice (some ⟨0, 0, none⟩) (List.length p6) ANY), (4, .pointer (some ⟨2, 0, none⟩)), (8, .agg ⟨[.int .i64 p0, .int .i64 p1, .int .i64 p2, .int .i64 p3]⟩)])) (h2 := [accB 27 (List.length p6) (List.flatMap e27 p6), .dead, .cells 23 [.int .i64 p4, .int .i64 p5]]) (by kernel_rfl) ?_
  refine TI.callM (g := 20) (args := [.agg ⟨[.int .i64 p0, .int .i64 p1, .int .i64 p2, .int .i64 p3]⟩]) (v := .int .i64 r1) (new := []) (by kernel_rfl) (PureSim.any (C20 p0 p1 p2 p3 r1 h2) (flatL (by kernel_rfl)) (by kernel_rfl) [accB 27 (List.length p6) (List.flatMap e27 p6), .dead, .cells 23 [.int .i64 p4, .int .i64 p5]]) [2, 4, 9] [0, 2] (a2 := (st 20 [(2, .slice (some ⟨0, 0, none⟩) (List.length p6) ANY), (4, .pointer (some ⟨2, 0, none⟩)), (9, .int .i64 r1)])) (h2 := [accB 27 (List.length p6) (List.flatMap e27 p6), .dead, .cells 23 [.int .i64 p4, .int .i64 p5]]) (by kernel_rfl) ?_
  refine TI.run 1 [2, 4, 7] [0, 2] (a2 := (st 20 [(2, .slice (some ⟨0, 0, none⟩) (List.length p6) ANY), (4, .pointer (some ⟨2, 0, none⟩)), (7, .int .i64 r1)])) (h2 := [accB 27 (List.length p6) (List.flatMap e27 p6), .dead, .cells 23 [.int .i64 p4, .int .i64 p5]]) (by kernel_rfl) ?_
  refine TI.done (by kernel_rfl) ?_
  refine NX.sq ?_
  refine TS.seq' (x := c52.s2.s1.s2.s1) (y := c52.s2.s1.s2.s2) (by kernel_rfl) ?_
  refine TS.region' (id := 2) (b := false) (ops := c52.s2.s1.s2.s1.rops) (by kernel_rfl) rfl ?_
  refine TI.run 2 [2, 4, 7, 11] [0, 2] (a2 := (st 20 [(2, .slice (some ⟨0, 0, none⟩) (List.length p6) ANY), (4, .pointer (some ⟨2, 0, none⟩)), (7, .int .i64 r1), (11, .bool (r1 != 0))])) (h2 := [accB 27 (List.length p6) (List.flatMap e27 p6), .dead, .cells 23 [.int .i64 p4, .int .i64 p5]]) (by kernel_rfl) ?_
  refine TI.done (by kernel_rfl) ?_
  refine NX.sq ?_
  refine TS.cond' (o := (.tmp 11)) (x := c52.s2.s1.s2.s2.th) (y := c52.s2.s1.s2.s2.el) (b := r1 != 0) (by kernel_rfl) (by kernel_rfl) (fun hc3 => ?_) (fun hc3 => ?_)
  · replace hF := of_pos hF hc3
    refine TS.seq' (x := c52.s2.s1.s2.s2.th.s1) (y := c52.s2.s1.s2.s2.th.s2) (by kernel_rfl) ?_
    refine TS.region' (id := 3) (b := false) (ops := c52.s2.s1.s2.s2.th.s1.rops) (by kernel_rfl) rfl ?_
    refine TI.run 2 [6] [0] (a2 := (st 20 [(6, .int .i64 r1)])) (h2 := [accB 27 (List.length p6) (List.flatMap e27 p6), .dead, .dead]) (by kernel_rfl) ?_
    refine TI.done (by kernel_rfl) ?_
    refine NX.sq ?_
    refine TS.ret' (by kernel_rfl) ?_
    refine NX.sqR ?_
    have hF := Option.some.inj hF
    subst hF
    exact ⟨.inr rfl, rfl, .int .i64 r1, by kernel_rfl, WkV.flat0 (by kernel_rfl) (Nat.le_of_ble_eq_true rfl)⟩
  · replace hF := of_neg hF hc3
    refine TS.skip' (by kernel_rfl) ?_
    refine NX.sq ?_
    refine TS.seq' (x := c52.s2.s2.s1) (y := c52.s2.s2.s2) (by kernel_rfl) ?_
    refine TS.seq' (x := c52.s2.s2.s1.s1) (y := c52.s2.s2.s1.s2) (by kernel_rfl) ?_
    have hX := of_do hF
    clear hF
    obtain ⟨r4, h5, hF⟩ := hX
    have hX := of_do hF
    clear hF
    obtain ⟨m8, hm9, hF⟩ := hX
    have hK : NX Try.prog 1 1 [.sq c52.s2.s2.s1.s2, .sq c52.s2.s2.s2] (FinP Try.prog Try.f52 1 (V52 1 r) (N52 1 r)) .normal (st 20 [(19, .bool m8)]) [accB 27 (List.length p6) (List.flatMap e27 p6), .dead, .dead] := by
      refine NX.sq ?_
      cases m8 with
      | true =>
        replace hF := of_pos hF rfl
        refine TS.condT' (o := (.tmp 19)) (x := c52.s2.s2.s1.s2.th) (y := c52.s2.s2.s1.s2.el) (by kernel_rfl) (by kernel_rfl) ?_
        refine TS.seq' (x := c52.s2.s2.s1.s2.th.s1) (y := c52.s2.s2.s1.s2.th.s2) (by kernel_rfl) ?_
        refine TS.region' (id := 5) (b := false) (ops := c52.s2.s2.s1.s2.th.s1.rops) (by kernel_rfl) rfl ?_
        refine TI.run 1 [6] [0] (a2 := (st 20 [(6, .int .i64 1)])) (h2 := [accB 27 (List.length p6) (List.flatMap e27 p6), .dead, .dead]) (by kernel_rfl) ?_
        refine TI.done (by kernel_rfl) ?_
        refine NX.sq ?_
        refine TS.ret' (by kernel_rfl) ?_
        refine NX.sqR ?_
        have hF := Option.some.inj hF
        subst hF
        exact ⟨.inr rfl, rfl, .int .i64 1, by kernel_rfl, WkV.flat0 (by kernel_rfl) (Nat.le_of_ble_eq_true rfl)⟩
      | false =>
        replace hF := of_neg hF rfl
        refine TS.condF' (o := (.tmp 19)) (x := c52.s2.s2.s1.s2.th) (y := c52.s2.s2.s1.s2.el) (by kernel_rfl) (by kernel_rfl) ?_
        refine TS.skip' (by kernel_rfl) ?_
        refine NX.sq ?_
        refine TS.seq' (x := c52.s2.s2.s2.s1) (y := c52.s2.s2.s2.s2) (by kernel_rfl) ?_
        refine TS.region' (id := 6) (b := false) (ops := c52.s2.s2.s2.s1.rops) (by kernel_rfl) rfl ?_
        refine TI.run 1 [6] [0] (a2 := (st 20 [(6, .int .i64 0)])) (h2 := [accB 27 (List.length p6) (List.flatMap e27 p6), .dead, .dead]) (by kernel_rfl) ?_
        refine TI.done (by kernel_rfl) ?_
        refine NX.sq ?_
        refine TS.ret' (by kernel_rfl) ?_
        have hF := Option.some.inj hF
        subst hF
        exact ⟨.inr rfl, rfl, .int .i64 0, by kernel_rfl, WkV.flat0 (by kernel_rfl) (Nat.le_of_ble_eq_true rfl)⟩
    cases r4 with
    | true =>
      replace hm9 := of_pos hm9 rfl
      have hX := of_do hm9
      clear hm9
      obtain ⟨r6, h7, hm9⟩ := hX
      have hm9 := Option.some.inj hm9
      subst hm9
      refine TS.region' (id := 4) (b := false) (ops := c52.s2.s2.s1.s1.rops) (by kernel_rfl) rfl ?_
      refine TI.run 1 [2, 13] [0] (a2 := (st 20 [(2, .slice (some ⟨0, 0, none⟩) (List.length p6) ANY), (13, .agg ⟨[.int .i64 p4, .int .i64 p5]⟩)])) (h2 := [accB 27 (List.length p6) (List.flatMap e27 p6), .dead, .dead]) (by kernel_rfl) ?_
      refine TI.callM (g := 58) (args := [.agg ⟨[.int .i64 p4, .int .i64 p5]⟩, .int .i64 10000]) (v := .bool true) (new := []) (by kernel_rfl) (PureSim.any (C58 p4 p5 10000 true h5) (flatL (by kernel_rfl)) (by kernel_rfl) [accB 27 (List.length p6) (List.flatMap e27 p6), .dead, .dead]) [2, 14] [0] (a2 := (st 20 [(2, .slice (some ⟨0, 0, none⟩) (List.length p6) ANY), (14, .bool true)])) (h2 := [accB 27 (List.length p6) (List.flatMap e27 p6), .dead, .dead]) (by kernel_rfl) ?_
      refine TI.run 3 [16, 17] [0] (a2 := (st 20 [(16, .bool false), (17, .slice (some ⟨0, 0, none⟩) (List.length p6) ANY)])) (h2 := [accB 27 (List.length p6) (List.flatMap e27 p6), .dead, .dead]) (by kernel_rfl) ?_
      refine TI.callM (g := 75) (args := [.slice (some ⟨0, 0, none⟩) (List.length p6) ANY, .func (.func 76) ⟨[]⟩ ⟨[]⟩]) (v := .bool r6) (new := []) (by kernel_rfl) (PureSim.ren (hc := [accB 27 (List.length p6) (List.flatMap e27 p6)]) (fun i => List.getD [(0, 0)] i (0, 0)) (C75 p6 r6 h7) (.cons (At.acc (by kernel_rfl) rfl (fun _ => rfl)) (.nil _)) (.cons (Rn.any _ _ _ _ _ _ (Nat.le_of_ble_eq_true rfl) rfl rfl (by decide)) (.cons (Rn.func' .nil .nil) .nil)) (.flat (by kernel_rfl)) newflat_nil) [16, 18] [0] (a2 := (st 20 [(16, .bool false), (18, .bool r6)])) (h2 := [accB 27 (List.length p6) (List.flatMap e27 p6), .dead, .dead]) (by kernel_rfl) ?_
      refine TI.run 1 [19] [0] (a2 := (st 20 [(19, .bool r6)])) (h2 := [accB 27 (List.length p6) (List.flatMap e27 p6), .dead, .dead]) (by kernel_rfl) ?_
      refine TI.done (by kernel_rfl) ?_
      exact hK
    | false =>
      replace hm9 := of_neg hm9 rfl
      have hm9 := Option.some.inj hm9
      subst hm9
      refine TS.region' (id := 4) (b := false) (ops := c52.s2.s2.s1.s1.rops) (by kernel_rfl) rfl ?_
      refine TI.run 1 [2, 13] [0] (a2 := (st 20 [(2, .slice (some ⟨0, 0, none⟩) (List.length p6) ANY), (13, .agg ⟨[.int .i64 p4, .int .i64 p5]⟩)])) (h2 := [accB 27 (List.length p6) (List.flatMap e27 p6), .dead, .dead]) (by kernel_rfl) ?_
      refine TI.callM (g := 58) (args := [.agg ⟨[.int .i64 p4, .int .i64 p5]⟩, .int .i64 10000]) (v := .bool false) (new := []) (by kernel_rfl) (PureSim.any (C58 p4 p5 10000 false h5) (flatL (by kernel_rfl)) (by kernel_rfl) [accB 27 (List.length p6) (List.flatMap e27 p6), .dead, .dead]) [2, 14] [0] (a2 := (st 20 [(2, .slice (some ⟨0, 0, none⟩) (List.length p6) ANY), (14, .bool false)])) (h2 := [accB 27 (List.length p6) (List.flatMap e27 p6), .dead, .dead]) (by kernel_rfl) ?_
      refine TI.run 5 [19] [0] (a2 := (st 20 [(19, .bool true)])) (h2 := [accB 27 (List.length p6) (List.flatMap e27 p6), .dead, .dead]) (by kernel_rfl) ?_
      refine TI.done (by kernel_rfl) ?_
      exact hK
theorem C52 (p0 : Int) (p1 : Int) (p2 : Int) (p3 : Int) (p4 : Int) (p5 : Int) (p6 : (List (Int × Int))) (r : Int) (hF : F52 p0 p1 p2 p3 p4 p5 p6 = some r) : PureSim Try.prog 52 [.agg ⟨[.int .i64 p0, .int .i64 p1, .int .i64 p2, .int .i64 p3]⟩, .agg ⟨[.int .i64 p4, .int .i64 p5]⟩, .slice (some ⟨0, 0, none⟩) (List.length p6) ANY] [accB 27 (List.length p6) (List.flatMap e27 p6)] (V52 1 r) (N52 1 r) :=
  PureSim.of_Fin Try.func52 (c := c52) (by kernel_rfl) (by kernel_rfl) 1 rfl [0, 1, 2] [0] (by kernel_rfl) (B52 p0 p1 p2 p3 p4 p5 p6 r hF)

-- (agonic/magnet.Vector).dot
noncomputable def c72 : Code := Try.f72.code
def F72 (p0 : Int) (p1 : Int) (p2 : Int) (p3 : Int) : Option Int :=
  some (w64 ((w64 (p0 * p2)) + (w64 (p1 * p3))))
def V72 (b : Nat) (r : Int) : Value := .int .i64 r
def N72 (b : Nat) (r : Int) : List Blk := []
theorem B72 (p0 : Int) (p1 : Int) (p2 : Int) (p3 : Int) (r : Int) (hF : F72 p0 p1 p2 p3 = some r) : TS Try.prog 0 0 c72 (st 16 [(0, .agg ⟨[.int .i64 p0, .int .i64 p1]⟩), (1, .agg ⟨[.int .i64 p2, .int .i64 p3]⟩)]) [] (NX Try.prog 0 0 [] (FinP Try.prog Try.f72 0 (V72 0 r) (N72 0 r))) := by
  unfold F72 at hF
  refine TS.seq' (x := c72.s1) (y := c72.s2) (by kernel_rfl) ?_
  refine TS.region' (id := 0) (b := false) (ops := c72.s1.rops) (by kernel_rfl) rfl ?_
  refine TI.run 3 [2, 3] [0, 1] (a2 := (st 16 [(2, .pointer (some ⟨0, 0, none⟩)), (3, .pointer (some ⟨1, 0, none⟩))])) (h2 := [.cells 23 [.int .i64 p0, .int .i64 p1], .cells 23 [.int .i64 p2, .int .i64 p3]]) (by kernel_rfl) ?_
  refine TI.done (by kernel_rfl) ?_
  refine NX.sq ?_
  refine TS.seq' (x := c72.s2.s1) (y := c72.s2.s2) (by kernel_rfl) ?_
  refine TS.region' (id := 1) (b := false) (ops := c72.s2.s1.rops) (by kernel_rfl) rfl ?_
  refine TI.run 12 [4] [] (a2 := (st 16 [(4, .int .i64 (w64 ((w64 (p0 * p2)) + (w64 (p1 * p3)))))])) (h2 := [.dead, .dead]) (by kernel_rfl) ?_
  refine TI.done (by kernel_rfl) ?_
  refine NX.sq ?_
  refine TS.ret' (by kernel_rfl) ?_
  have hF := Option.some.inj hF
  subst hF
  exact ⟨.inr rfl, rfl, .int .i64 (w64 ((w64 (p0 * p2)) + (w64 (p1 * p3)))), by kernel_rfl, WkV.flat0 (by kernel_rfl) (Nat.le_of_ble_eq_true rfl)⟩
theorem C72 (p0 : Int) (p1 : Int) (p2 : Int) (p3 : Int) (r : Int) (hF : F72 p0 p1 p2 p3 = some r) : PureSim Try.prog 72 [.agg ⟨[.int .i64 p0, .int .i64 p1]⟩, .agg ⟨[.int .i64 p2, .int .i64 p3]⟩] [] (V72 0 r) (N72 0 r) :=
  PureSim.of_Fin Try.func72 (c := c72) (by kernel_rfl) (by kernel_rfl) 0 rfl [0, 1] [] (by kernel_rfl) (B72 p0 p1 p2 p3 r hF)

-- (agonic/magnet.Vector).square
noncomputable def c63 : Code := Try.f63.code
def F63 (p0 : Int) (p1 : Int) : Option Int :=
  F72 p0 p1 p0 p1 >>= fun r1 =>
  some r1
def V63 (b : Nat) (r : Int) : Value := .int .i64 r
def N63 (b : Nat) (r : Int) : List Blk := []
theorem B63 (p0 : Int) (p1 : Int) (r : Int) (hF : F63 p0 p1 = some r) : TS Try.prog 0 0 c63 (st 6 [(0, .agg ⟨[.int .i64 p0, .int .i64 p1]⟩)]) [] (NX Try.prog 0 0 [] (FinP Try.prog Try.f63 0 (V63 0 r) (N63 0 r))) := by
  unfold F63 at hF
  refine TS.seq' (x := c63.s1) (y := c63.s2) (by kernel_rfl) ?_
  refine TS.region' (id := 0) (b := false) (ops := c63.s1.rops) (by kernel_rfl) rfl ?_
  refine TI.run 2 [1] [0] (a2 := (st 6 [(1, .pointer (some ⟨0, 0, none⟩))])) (h2 := [.cells 23 [.int .i64 p0, .int .i64 p1]]) (by kernel_rfl) ?_
  refine TI.done (by kernel_rfl) ?_
  refine NX.sq ?_
  refine TS.seq' (x := c63.s2.s1) (y := c63.s2.s2) (by kernel_rfl) ?_
  have hX := of_do hF
  clear hF
  obtain ⟨r1, h2, hF⟩ := hX
  refine TS.region' (id := 1) (b := false) (ops := c63.s2.s1.rops) (by kernel_rfl) rfl ?_
  refine TI.run 2 [3, 4] [] (a2 := (st 6 [(3, .agg ⟨[.int .i64 p0, .int .i64 p1]⟩), (4, .agg ⟨[.int .i64 p0, .int .i64 p1]⟩)])) (h2 := [.dead]) (by kernel_rfl) ?_
  refine TI.callM (g := 72) (args := [.agg ⟨[.int .i64 p0, .int .i64 p1]⟩, .agg ⟨[.int .i64 p0, .int .i64 p1]⟩]) (v := .int .i64 r1) (new := []) (by kernel_rfl) (PureSim.any (C72 p0 p1 p0 p1 r1 h2) (flatL (by kernel_rfl)) (by kernel_rfl) [.dead]) [5] [] (a2 := (st 6 [(5, .int .i64 r1)])) (h2 := [.dead]) (by kernel_rfl) ?_
  refine TI.run 1 [2] [] (a2 := (st 6 [(2, .int .i64 r1)])) (h2 := [.dead]) (by kernel_rfl) ?_
  refine TI.done (by kernel_rfl) ?_
  refine NX.sq ?_
  refine TS.ret' (by kernel_rfl) ?_
  have hF := Option.some.inj hF
  subst hF
  exact ⟨.inr rfl, rfl, .int .i64 r1, by kernel_rfl, WkV.flat0 (by kernel_rfl) (Nat.le_of_ble_eq_true rfl)⟩
theorem C63 (p0 : Int) (p1 : Int) (r : Int) (hF : F63 p0 p1 = some r) : PureSim Try.prog 63 [.agg ⟨[.int .i64 p0, .int .i64 p1]⟩] [] (V63 0 r) (N63 0 r) :=
  PureSim.of_Fin Try.func63 (c := c63) (by kernel_rfl) (by kernel_rfl) 0 rfl [0] [] (by kernel_rfl) (B63 p0 p1 r hF)

-- agonic/magnet.floor
noncomputable def c69 : Code := Try.f69.code
def F69 (p0 : Int) (p1 : Int) : Option Int :=
  (
    if decide (p1 < 0) then
      some (w64 (0 - p0), w64 (0 - p1))
    else
      some (p0, p1)
  : Option (Int × Int)) >>= fun m6 =>
  if m6.2 = 0 then none else
  some (w64 (m6.1 - (Int.tmod (w64 ((Int.tmod m6.1 m6.2) + m6.2)) m6.2))) >>= fun o9 =>
  some (w64 (Int.tdiv o9 m6.2))
def V69 (b : Nat) (r : Int) : Value := .int .i64 r
def N69 (b : Nat) (r : Int) : List Blk := []
theorem B69 (p0 : Int) (p1 : Int) (r : Int) (hF : F69 p0 p1 = some r) : TS Try.prog 0 0 c69 (st 22 [(0, .int .i64 p0), (1, .int .i64 p1)]) [] (NX Try.prog 0 0 [] (FinP Try.prog Try.f69 0 (V69 0 r) (N69 0 r))) := by
  unfold F69 at hF
  refine TS.seq' (x := c69.s1) (y := c69.s2) (by kernel_rfl) ?_
  refine TS.region' (id := 0) (b := false) (ops := c69.s1.rops) (by kernel_rfl) rfl ?_
  refine TI.run 1 [0, 1] [] (a2 := (st 22 [(0, .int .i64 p0), (1, .int .i64 p1)])) (h2 := []) (by kernel_rfl) ?_
  refine TI.done (by kernel_rfl) ?_
  refine NX.sq ?_
  refine TS.seq' (x := c69.s2.s1) (y := c69.s2.s2) (by kernel_rfl) ?_
  refine TS.seq' (x := c69.s2.s1.s1) (y := c69.s2.s1.s2) (by kernel_rfl) ?_
  refine TS.region' (id := 1) (b := false) (ops := c69.s2.s1.s1.rops) (by kernel_rfl) rfl ?_
  refine TI.run 2 [0, 1, 6] [] (a2 := (st 22 [(0, .int .i64 p0), (1, .int .i64 p1), (6, .bool (decide (p1 < 0)))])) (h2 := []) (by kernel_rfl) ?_
  refine TI.done (by kernel_rfl) ?_
  refine NX.sq ?_
  have hX := of_do hF
  clear hF
  obtain ⟨m6, hm7, hF⟩ := hX
  have hK : NX Try.prog 0 0 [.sq c69.s2.s2] (FinP Try.prog Try.f69 0 (V69 0 r) (N69 0 r)) .normal (st 22 [(0, .int .i64 m6.1), (1, .int .i64 m6.2)]) [] := by
    refine NX.sq ?_
    refine TS.seq' (x := c69.s2.s2.s1) (y := c69.s2.s2.s2) (by kernel_rfl) ?_
    have hX := of_guardn hF
    clear hF
    obtain ⟨hg8, hF⟩ := hX
    have hX := of_do hF
    clear hF
    obtain ⟨o9, h10, hF⟩ := hX
    replace h10 := Option.some.inj h10
    refine TS.region' (id := 3) (b := false) (ops := c69.s2.s2.s1.rops) (by kernel_rfl) rfl ?_
    refine TI.run 3 [1, 11, 12, 13] [] (a2 := (st 22 [(1, .int .i64 m6.2), (11, .int .i64 m6.1), (12, .int .i64 m6.1), (13, .int .i64 m6.2)])) (h2 := []) (by kernel_rfl) ?_
    refine TI.op (q := { val := .int .i64 (Int.tmod m6.1 m6.2) }) (q_int (P := Try.prog) (op := .rem) (ty := 3) (ox := (.tmp 12)) (oy := (.tmp 13)) (k := .i64) (k' := .i64) (y := m6.1) (z := m6.2) (by kernel_rfl) (rem_ok hg8)) [1, 11, 14] [] (a2 := (st 22 [(1, .int .i64 m6.2), (11, .int .i64 m6.1), (14, .int .i64 (Int.tmod m6.1 m6.2))])) (h2 := []) (by kernel_rfl) ?_
    refine TI.run 3 [1, 11, 16, 17] [] (a2 := (st 22 [(1, .int .i64 m6.2), (11, .int .i64 m6.1), (16, .int .i64 (w64 ((Int.tmod m6.1 m6.2) + m6.2))), (17, .int .i64 m6.2)])) (h2 := []) (by kernel_rfl) ?_
    refine TI.op (q := { val := .int .i64 (Int.tmod (w64 ((Int.tmod m6.1 m6.2) + m6.2)) m6.2) }) (q_int (P := Try.prog) (op := .rem) (ty := 3) (ox := (.tmp 16)) (oy := (.tmp 17)) (k := .i64) (k' := .i64) (y := w64 ((Int.tmod m6.1 m6.2) + m6.2)) (z := m6.2) (by kernel_rfl) (rem_ok hg8)) [1, 11, 18] [] (a2 := (st 22 [(1, .int .i64 m6.2), (11, .int .i64 m6.1), (18, .int .i64 (Int.tmod (w64 ((Int.tmod m6.1 m6.2) + m6.2)) m6.2))])) (h2 := []) (by kernel_rfl) ?_
    refine TI.op (q := { val := .int .i64 o9 }) (q_convI (e := w64 (m6.1 - (Int.tmod (w64 ((Int.tmod m6.1 m6.2) + m6.2)) m6.2))) (y := o9) (by kernel_rfl) h10) [1, 19] [] (a2 := (st 22 [(1, .int .i64 m6.2), (19, .int .i64 o9)])) (h2 := []) (by kernel_rfl) ?_
    refine TI.run 1 [19, 20] [] (a2 := (st 22 [(19, .int .i64 o9), (20, .int .i64 m6.2)])) (h2 := []) (by kernel_rfl) ?_
    refine TI.op (q := { val := .int .i64 (w64 (Int.tdiv o9 m6.2)) }) (q_int (P := Try.prog) (op := .quo) (ty := 3) (ox := (.tmp 19)) (oy := (.tmp 20)) (k := .i64) (k' := .i64) (y := o9) (z := m6.2) (by kernel_rfl) (quo_ok hg8)) [21] [] (a2 := (st 22 [(21, .int .i64 (w64 (Int.tdiv o9 m6.2)))])) (h2 := []) (by kernel_rfl) ?_
    refine TI.run 1 [4] [] (a2 := (st 22 [(4, .int .i64 (w64 (Int.tdiv o9 m6.2)))])) (h2 := []) (by kernel_rfl) ?_
    refine TI.done (by kernel_rfl) ?_
    refine NX.sq ?_
    refine TS.ret' (by kernel_rfl) ?_
    have hF := Option.some.inj hF
    subst hF
    exact ⟨.inr rfl, rfl, .int .i64 (w64 (Int.tdiv o9 m6.2)), by kernel_rfl, WkV.flat0 (by kernel_rfl) (Nat.le_of_ble_eq_true rfl)⟩
  clear hF
  have hF := hm7
  clear hm7
  refine TS.start ?_
  refine TS.cond' (o := (.tmp 6)) (x := c69.s2.s1.s2.th) (y := c69.s2.s1.s2.el) (b := decide (p1 < 0)) (by kernel_rfl) (by kernel_rfl) (fun hc11 => ?_) (fun hc11 => ?_)
  · replace hF := of_pos hF hc11
    refine TS.region' (id := 2) (b := false) (ops := c69.s2.s1.s2.th.rops) (by kernel_rfl) rfl ?_
    refine TI.run 6 [0, 1] [] (a2 := (st 22 [(0, .int .i64 (w64 (0 - p0))), (1, .int .i64 (w64 (0 - p1)))])) (h2 := []) (by kernel_rfl) ?_
    refine TI.done (by kernel_rfl) ?_
    have hF := Option.some.inj hF
    subst hF
    exact TS.weak (Wk.anew (base := 0) (L := 0) (f := []) (by decide) (by decide) (Nat.le_of_ble_eq_true rfl) rfl (.nil _) (LRn.stx [0, 1] [.int .i64 (w64 (0 - p0)), .int .i64 (w64 (0 - p1))] [.int .i64 (w64 (0 - p0)), .int .i64 (w64 (0 - p1))] (.cons (.flat (by kernel_rfl)) (.cons (.flat (by kernel_rfl)) .nil)) (by kernel_rfl) (by kernel_rfl) rfl) rfl rfl) hK
  · replace hF := of_neg hF hc11
    refine TS.skip' (by kernel_rfl) ?_
    have hF := Option.some.inj hF
    subst hF
    exact TS.weak (Wk.anew (base := 0) (L := 0) (f := []) (by decide) (by decide) (Nat.le_of_ble_eq_true rfl) rfl (.nil _) (LRn.stx [0, 1] [.int .i64 p0, .int .i64 p1] [.int .i64 p0, .int .i64 p1] (.cons (.flat (by kernel_rfl)) (.cons (.flat (by kernel_rfl)) .nil)) (by kernel_rfl) (by kernel_rfl) rfl) rfl rfl) hK
theorem C69 (p0 : Int) (p1 : Int) (r : Int) (hF : F69 p0 p1 = some r) : PureSim Try.prog 69 [.int .i64 p0, .int .i64 p1] [] (V69 0 r) (N69 0 r) :=
  PureSim.of_Fin Try.func69 (c := c69) (by kernel_rfl) (by kernel_rfl) 0 rfl [0, 1] [] (by kernel_rfl) (B69 p0 p1 r hF)

-- (agonic/magnet.Vector).plus
noncomputable def c53 : Code := Try.f53.code
def F53 (p0 : Int) (p1 : Int) (p2 : Int) (p3 : Int) (p4 : Int) : Option (Int × Int) :=
  some (w64 (p0 + (w64 (p2 * p3))), w64 (p1 + (w64 (p2 * p4))))
def V53 (b : Nat) (r : (Int × Int)) : Value := .agg ⟨[.int .i64 r.1, .int .i64 r.2]⟩
def N53 (b : Nat) (r : (Int × Int)) : List Blk := []
theorem B53 (p0 : Int) (p1 : Int) (p2 : Int) (p3 : Int) (p4 : Int) (r : (Int × Int)) (hF : F53 p0 p1 p2 p3 p4 = some r) : TS Try.prog 0 0 c53 (st 22 [(0, .agg ⟨[.int .i64 p0, .int .i64 p1]⟩), (1, .int .i64 p2), (2, .agg ⟨[.int .i64 p3, .int .i64 p4]⟩)]) [] (NX Try.prog 0 0 [] (FinP Try.prog Try.f53 0 (V53 0 r) (N53 0 r))) := by
  unfold F53 at hF
  refine TS.seq' (x := c53.s1) (y := c53.s2) (by kernel_rfl) ?_
  refine TS.region' (id := 0) (b := false) (ops := c53.s1.rops) (by kernel_rfl) rfl ?_
  refine TI.run 3 [1, 3, 5, 6] [0, 1, 2] (a2 := (st 22 [(1, .int .i64 p2), (3, .pointer (some ⟨0, 0, none⟩)), (5, .pointer (some ⟨1, 0, none⟩)), (6, .pointer (some ⟨2, 0, none⟩))])) (h2 := [.cells 23 [.int .i64 p0, .int .i64 p1], .cells 23 [.int .i64 p3, .int .i64 p4], .cells 23 [.int .i64 0, .int .i64 0]]) (by kernel_rfl) ?_
  refine TI.done (by kernel_rfl) ?_
  refine NX.sq ?_
  refine TS.seq' (x := c53.s2.s1) (y := c53.s2.s2) (by kernel_rfl) ?_
  refine TS.region' (id := 1) (b := false) (ops := c53.s2.s1.rops) (by kernel_rfl) rfl ?_
  refine TI.run 16 [6] [2] (a2 := (st 22 [(6, .pointer (some ⟨2, 0, none⟩))])) (h2 := [.dead, .dead, .cells 23 [.int .i64 (w64 (p0 + (w64 (p2 * p3)))), .int .i64 (w64 (p1 + (w64 (p2 * p4))))]]) (by kernel_rfl) ?_
  refine TI.done (by kernel_rfl) ?_
  refine NX.sq ?_
  refine TS.ret' (by kernel_rfl) ?_
  have hF := Option.some.inj hF
  subst hF
  exact ⟨.inr rfl, rfl, .agg ⟨[.int .i64 (w64 (p0 + (w64 (p2 * p3)))), .int .i64 (w64 (p1 + (w64 (p2 * p4))))]⟩, by kernel_rfl, WkV.flat0 (by kernel_rfl) (Nat.le_of_ble_eq_true rfl)⟩
theorem C53 (p0 : Int) (p1 : Int) (p2 : Int) (p3 : Int) (p4 : Int) (r : (Int × Int)) (hF : F53 p0 p1 p2 p3 p4 = some r) : PureSim Try.prog 53 [.agg ⟨[.int .i64 p0, .int .i64 p1]⟩, .int .i64 p2, .agg ⟨[.int .i64 p3, .int .i64 p4]⟩] [] (V53 0 r) (N53 0 r) :=
  PureSim.of_Fin Try.func53 (c := c53) (by kernel_rfl) (by kernel_rfl) 0 rfl [0, 1, 2] [] (by kernel_rfl) (B53 p0 p1 p2 p3 p4 r hF)

-- (agonic/magnet.Choice).plus
noncomputable def c78 : Code := Try.f78.code
def F78 (p0 : Int) (p1 : Int) (p2 : Int) (p3 : Int) (p4 : Int) : Option (Int × Int) :=
  some (w64 (p0 + (w64 (p2 * p3))), w64 (p1 + (w64 (p2 * p4))))
def V78 (b : Nat) (r : (Int × Int)) : Value := .agg ⟨[.int .i64 r.1, .int .i64 r.2]⟩
def N78 (b : Nat) (r : (Int × Int)) : List Blk := []
theorem B78 (p0 : Int) (p1 : Int) (p2 : Int) (p3 : Int) (p4 : Int) (r : (Int × Int)) (hF : F78 p0 p1 p2 p3 p4 = some r) : TS Try.prog 0 0 c78 (st 22 [(0, .agg ⟨[.int .i64 p0, .int .i64 p1]⟩), (1, .int .i64 p2), (2, .agg ⟨[.int .i64 p3, .int .i64 p4]⟩)]) [] (NX Try.prog 0 0 [] (FinP Try.prog Try.f78 0 (V78 0 r) (N78 0 r))) := by
  unfold F78 at hF
  refine TS.seq' (x := c78.s1) (y := c78.s2) (by kernel_rfl) ?_
  refine TS.region' (id := 0) (b := false) (ops := c78.s1.rops) (by kernel_rfl) rfl ?_
  refine TI.run 3 [1, 3, 5, 6] [0, 1, 2] (a2 := (st 22 [(1, .int .i64 p2), (3, .pointer (some ⟨0, 0, none⟩)), (5, .pointer (some ⟨1, 0, none⟩)), (6, .pointer (some ⟨2, 0, none⟩))])) (h2 := [.cells 27 [.int .i64 p0, .int .i64 p1], .cells 27 [.int .i64 p3, .int .i64 p4], .cells 27 [.int .i64 0, .int .i64 0]]) (by kernel_rfl) ?_
  refine TI.done (by kernel_rfl) ?_
  refine NX.sq ?_
  refine TS.seq' (x := c78.s2.s1) (y := c78.s2.s2) (by kernel_rfl) ?_
  refine TS.region' (id := 1) (b := false) (ops := c78.s2.s1.rops) (by kernel_rfl) rfl ?_
  refine TI.run 16 [6] [2] (a2 := (st 22 [(6, .pointer (some ⟨2, 0, none⟩))])) (h2 := [.dead, .dead, .cells 27 [.int .i64 (w64 (p0 + (w64 (p2 * p3)))), .int .i64 (w64 (p1 + (w64 (p2 * p4))))]]) (by kernel_rfl) ?_
  refine TI.done (by kernel_rfl) ?_
  refine NX.sq ?_
  refine TS.ret' (by kernel_rfl) ?_
  have hF := Option.some.inj hF
  subst hF
  exact ⟨.inr rfl, rfl, .agg ⟨[.int .i64 (w64 (p0 + (w64 (p2 * p3)))), .int .i64 (w64 (p1 + (w64 (p2 * p4))))]⟩, by kernel_rfl, WkV.flat0 (by kernel_rfl) (Nat.le_of_ble_eq_true rfl)⟩
theorem C78 (p0 : Int) (p1 : Int) (p2 : Int) (p3 : Int) (p4 : Int) (r : (Int × Int)) (hF : F78 p0 p1 p2 p3 p4 = some r) : PureSim Try.prog 78 [.agg ⟨[.int .i64 p0, .int .i64 p1]⟩, .int .i64 p2, .agg ⟨[.int .i64 p3, .int .i64 p4]⟩] [] (V78 0 r) (N78 0 r) :=
  PureSim.of_Fin Try.func78 (c := c78) (by kernel_rfl) (by kernel_rfl) 0 rfl [0, 1, 2] [] (by kernel_rfl) (B78 p0 p1 p2 p3 p4 r hF)

-- (agonic/magnet.Kit).reduce
noncomputable def c61 : Code := Try.f61.code
def F61l0  (z68 : (Int × Int × Int × Int × Int × Int × Int × Int)) : Option (Int × Int × Int × Int × Int × Int × Int × Int) :=
    F72 z68.1 z68.2.1 z68.2.2.1 z68.2.2.2.1 >>= fun r51 =>
    F63 z68.1 z68.2.1 >>= fun r53 =>
    F63 z68.1 z68.2.1 >>= fun r55 =>
    F69 (w64 ((w64 (2 * r51)) + r53)) (w64 (2 * r55)) >>= fun r57 =>
    F53 z68.2.2.1 z68.2.2.2.1 (w64 (0 - r57)) z68.1 z68.2.1 >>= fun r59 =>
    F78 z68.2.2.2.2.2.2.1 z68.2.2.2.2.2.2.2 (w64 (0 - r57)) z68.2.2.2.2.1 z68.2.2.2.2.2.1 >>= fun r61 =>
    F63 z68.1 z68.2.1 >>= fun r63 =>
    F63 r59.1 r59.2 >>= fun r65 =>
    if decide (r63 ≤ r65) then
      some (z68.1, z68.2.1, r59.1, r59.2, z68.2.2.2.2.1, z68.2.2.2.2.2.1, r61.1, r61.2)
    else
      F61l0  (r59.1, r59.2, z68.1, z68.2.1, r61.1, r61.2, z68.2.2.2.2.1, z68.2.2.2.2.2.1)
  partial_fixpoint
def F61 (p0 : Int) (p1 : Int) (p2 : Int) (p3 : Int) : Option (((Int × Int) × (Int × Int)) × (Int × Int) × (Int × Int)) :=
  F61l0  (p0, p1, p2, p3, 1, 0, 0, 1) >>= fun r69 =>
  some (((r69.1, r69.2.1), (r69.2.2.1, r69.2.2.2.1)), (r69.2.2.2.2.1, r69.2.2.2.2.2.1), (r69.2.2.2.2.2.2.1, r69.2.2.2.2.2.2.2))
def V61 (b : Nat) (r : (((Int × Int) × (Int × Int)) × (Int × Int) × (Int × Int))) : Value := .agg ⟨[.int .i64 r.1.1.1, .int .i64 r.1.1.2, .int .i64 r.1.2.1, .int .i64 r.1.2.2, .int .i64 r.2.1.1, .int .i64 r.2.1.2, .int .i64 r.2.2.1, .int .i64 r.2.2.2]⟩
def N61 (b : Nat) (r : (((Int × Int) × (Int × Int)) × (Int × Int) × (Int × Int))) : List Blk := []
def P61l0  (r : (Int × Int × Int × Int × Int × Int × Int × Int)) : Post := fun e a h => e = .ret ∧ Wk Try.prog 0 0 a h (st 73 [(2, .pointer (some ⟨0, 0, none⟩))]) [.cells 108 [.int .i64 r.1, .int .i64 r.2.1, .int .i64 r.2.2.1, .int .i64 r.2.2.2.1, .int .i64 r.2.2.2.2.1, .int .i64 r.2.2.2.2.2.1, .int .i64 r.2.2.2.2.2.2.1, .int .i64 r.2.2.2.2.2.2.2]]
theorem L61l0  (v18 : Int) (v19 : Int) (v20 : Int) (v21 : Int) (v22 : Int) (v23 : Int) (v24 : Int) (v25 : Int) (r : (Int × Int × Int × Int × Int × Int × Int × Int)) (hF : F61l0  (v18, v19, v20, v21, v22, v23, v24, v25) = some r) : TL Try.prog 0 0 c61.s2.s2.bd.bd (st 73 [(2, .pointer (some ⟨0, 0, none⟩)), (3, .pointer (some ⟨1, 0, none⟩))]) [.cells 108 [.int .i64 0, .int .i64 0, .int .i64 0, .int .i64 0, .int .i64 0, .int .i64 0, .int .i64 0, .int .i64 0], .cells 108 [.int .i64 v18, .int .i64 v19, .int .i64 v20, .int .i64 v21, .int .i64 v22, .int .i64 v23, .int .i64 v24, .int .i64 v25]] (P61l0  r) := by
  refine F61l0.partial_correctness  (motive := fun z68 r => TL Try.prog 0 0 c61.s2.s2.bd.bd (st 73 [(2, .pointer (some ⟨0, 0, none⟩)), (3, .pointer (some ⟨1, 0, none⟩))]) [.cells 108 [.int .i64 0, .int .i64 0, .int .i64 0, .int .i64 0, .int .i64 0, .int .i64 0, .int .i64 0, .int .i64 0], .cells 108 [.int .i64 z68.1, .int .i64 z68.2.1, .int .i64 z68.2.2.1, .int .i64 z68.2.2.2.1, .int .i64 z68.2.2.2.2.1, .int .i64 z68.2.2.2.2.2.1, .int .i64 z68.2.2.2.2.2.2.1, .int .i64 z68.2.2.2.2.2.2.2]] (P61l0  r)) ?_ (v18, v19, v20, v21, v22, v23, v24, v25) r hF
  clear hF r v18 v19 v20 v21 v22 v23 v24 v25
  intro again ih z68 r hF
  refine TL.round ?_
  refine TS.block' (id := 1) (x := c61.s2.s2.bd.bd.bd) (by kernel_rfl) ?_
  refine TS.seq' (x := c61.s2.s2.bd.bd.bd.s1) (y := c61.s2.s2.bd.bd.bd.s2) (by kernel_rfl) ?_
  have hX := of_do hF
  clear hF
  obtain ⟨r51, h52, hF⟩ := hX
  have hX := of_do hF
  clear hF
  obtain ⟨r53, h54, hF⟩ := hX
  have hX := of_do hF
  clear hF
  obtain ⟨r55, h56, hF⟩ := hX
  have hX := of_do hF
  clear hF
  obtain ⟨r57, h58, hF⟩ := hX
  have hT : ∀ e ∈ ([⟨72, [.agg ⟨[.int .i64 z68.1, .int .i64 z68.2.1]⟩, .agg ⟨[.int .i64 z68.2.2.1, .int .i64 z68.2.2.2.1]⟩], [.cells 108 [.int .i64 0, .int .i64 0, .int .i64 0, .int .i64 0, .int .i64 0, .int .i64 0, .int .i64 0, .int .i64 0], .cells 108 [.int .i64 z68.1, .int .i64 z68.2.1, .int .i64 z68.2.2.1, .int .i64 z68.2.2.2.1, .int .i64 z68.2.2.2.2.1, .int .i64 z68.2.2.2.2.2.1, .int .i64 z68.2.2.2.2.2.2.1, .int .i64 z68.2.2.2.2.2.2.2]], .int .i64 r51, []⟩, ⟨63, [.agg ⟨[.int .i64 z68.1, .int .i64 z68.2.1]⟩], [.cells 108 [.int .i64 0, .int .i64 0, .int .i64 0, .int .i64 0, .int .i64 0, .int .i64 0, .int .i64 0, .int .i64 0], .cells 108 [.int .i64 z68.1, .int .i64 z68.2.1, .int .i64 z68.2.2.1, .int .i64 z68.2.2.2.1, .int .i64 z68.2.2.2.2.1, .int .i64 z68.2.2.2.2.2.1, .int .i64 z68.2.2.2.2.2.2.1, .int .i64 z68.2.2.2.2.2.2.2]], .int .i64 r53, []⟩, ⟨63, [.agg ⟨[.int .i64 z68.1, .int .i64 z68.2.1]⟩], [.cells 108 [.int .i64 0, .int .i64 0, .int .i64 0, .int .i64 0, .int .i64 0, .int .i64 0, .int .i64 0, .int .i64 0], .cells 108 [.int .i64 z68.1, .int .i64 z68.2.1, .int .i64 z68.2.2.1, .int .i64 z68.2.2.2.1, .int .i64 z68.2.2.2.2.1, .int .i64 z68.2.2.2.2.2.1, .int .i64 z68.2.2.2.2.2.2.1, .int .i64 z68.2.2.2.2.2.2.2]], .int .i64 r55, []⟩, ⟨69, [.int .i64 (w64 ((w64 (2 * r51)) + r53)), .int .i64 (w64 (2 * r55))], [.cells 108 [.int .i64 0, .int .i64 0, .int .i64 0, .int .i64 0, .int .i64 0, .int .i64 0, .int .i64 0, .int .i64 0], .cells 108 [.int .i64 z68.1, .int .i64 z68.2.1, .int .i64 z68.2.2.1, .int .i64 z68.2.2.2.1, .int .i64 z68.2.2.2.2.1, .int .i64 z68.2.2.2.2.2.1, .int .i64 z68.2.2.2.2.2.2.1, .int .i64 z68.2.2.2.2.2.2.2]], .int .i64 r57, []⟩] : List Entry), PureSim Try.prog e.g e.args e.h e.v e.new := by
    intro e he
    simp only [List.mem_cons, List.not_mem_nil, or_false] at he
    rcases he with rfl | rfl | rfl | rfl
    · exact (PureSim.any (C72 z68.1 z68.2.1 z68.2.2.1 z68.2.2.2.1 r51 h52) (flatL (by kernel_rfl)) (by kernel_rfl) [.cells 108 [.int .i64 0, .int .i64 0, .int .i64 0, .int .i64 0, .int .i64 0, .int .i64 0, .int .i64 0, .int .i64 0], .cells 108 [.int .i64 z68.1, .int .i64 z68.2.1, .int .i64 z68.2.2.1, .int .i64 z68.2.2.2.1, .int .i64 z68.2.2.2.2.1, .int .i64 z68.2.2.2.2.2.1, .int .i64 z68.2.2.2.2.2.2.1, .int .i64 z68.2.2.2.2.2.2.2]])
    · exact (PureSim.any (C63 z68.1 z68.2.1 r53 h54) (flatL (by kernel_rfl)) (by kernel_rfl) [.cells 108 [.int .i64 0, .int .i64 0, .int .i64 0, .int .i64 0, .int .i64 0, .int .i64 0, .int .i64 0, .int .i64 0], .cells 108 [.int .i64 z68.1, .int .i64 z68.2.1, .int .i64 z68.2.2.1, .int .i64 z68.2.2.2.1, .int .i64 z68.2.2.2.2.1, .int .i64 z68.2.2.2.2.2.1, .int .i64 z68.2.2.2.2.2.2.1, .int .i64 z68.2.2.2.2.2.2.2]])
    · exact (PureSim.any (C63 z68.1 z68.2.1 r55 h56) (flatL (by kernel_rfl)) (by kernel_rfl) [.cells 108 [.int .i64 0, .int .i64 0, .int .i64 0, .int .i64 0, .int .i64 0, .int .i64 0, .int .i64 0, .int .i64 0], .cells 108 [.int .i64 z68.1, .int .i64 z68.2.1, .int .i64 z68.2.2.1, .int .i64 z68.2.2.2.1, .int .i64 z68.2.2.2.2.1, .int .i64 z68.2.2.2.2.2.1, .int .i64 z68.2.2.2.2.2.2.1, .int .i64 z68.2.2.2.2.2.2.2]])
    · exact (PureSim.any (C69 (w64 ((w64 (2 * r51)) + r53)) (w64 (2 * r55)) r57 h58) (flatL (by kernel_rfl)) (by kernel_rfl) [.cells 108 [.int .i64 0, .int .i64 0, .int .i64 0, .int .i64 0, .int .i64 0, .int .i64 0, .int .i64 0, .int .i64 0], .cells 108 [.int .i64 z68.1, .int .i64 z68.2.1, .int .i64 z68.2.2.1, .int .i64 z68.2.2.2.1, .int .i64 z68.2.2.2.2.1, .int .i64 z68.2.2.2.2.2.1, .int .i64 z68.2.2.2.2.2.2.1, .int .i64 z68.2.2.2.2.2.2.2]])
  refine TS.draw' (id := 2) (b := true) (ops := c61.s2.s2.bd.bd.bd.s1.rops) (fin := ({ act := (st 73 [(2, .pointer (some ⟨0, 0, none⟩)), (3, .pointer (some ⟨1, 0, none⟩)), (9, .pointer (some ⟨1, 0, none⟩)), (10, .pointer (some ⟨1, 0, none⟩)), (11, .agg ⟨[.int .i64 z68.1, .int .i64 z68.2.1]⟩), (12, .pointer (some ⟨1, 0, none⟩)), (13, .pointer (some ⟨1, 2, none⟩)), (14, .agg ⟨[.int .i64 z68.2.2.1, .int .i64 z68.2.2.2.1]⟩), (15, .int .i64 r51), (16, .int .i64 (w64 (2 * r51))), (17, .pointer (some ⟨1, 0, none⟩)), (18, .pointer (some ⟨1, 0, none⟩)), (19, .agg ⟨[.int .i64 z68.1, .int .i64 z68.2.1]⟩), (20, .int .i64 r53), (21, .int .i64 (w64 ((w64 (2 * r51)) + r53))), (22, .pointer (some ⟨1, 0, none⟩)), (23, .pointer (some ⟨1, 0, none⟩)), (24, .agg ⟨[.int .i64 z68.1, .int .i64 z68.2.1]⟩), (25, .int .i64 r55), (26, .int .i64 (w64 (2 * r55)))]), heap := [.cells 108 [.int .i64 0, .int .i64 0, .int .i64 0, .int .i64 0, .int .i64 0, .int .i64 0, .int .i64 0, .int .i64 0], .cells 108 [.int .i64 z68.1, .int .i64 z68.2.1, .int .i64 z68.2.2.1, .int .i64 z68.2.2.2.1, .int .i64 z68.2.2.2.2.1, .int .i64 z68.2.2.2.2.2.1, .int .i64 z68.2.2.2.2.2.2.1, .int .i64 z68.2.2.2.2.2.2.2]], own := [], upds := [] } : QSt)) (fin2 := ({ act := (st 73 [(2, .pointer (some ⟨0, 0, none⟩)), (3, .pointer (some ⟨1, 0, none⟩)), (9, .pointer (some ⟨1, 0, none⟩)), (10, .pointer (some ⟨1, 0, none⟩)), (11, .agg ⟨[.int .i64 z68.1, .int .i64 z68.2.1]⟩), (12, .pointer (some ⟨1, 0, none⟩)), (13, .pointer (some ⟨1, 2, none⟩)), (14, .agg ⟨[.int .i64 z68.2.2.1, .int .i64 z68.2.2.2.1]⟩), (15, .int .i64 r51), (16, .int .i64 (w64 (2 * r51))), (17, .pointer (some ⟨1, 0, none⟩)), (18, .pointer (some ⟨1, 0, none⟩)), (19, .agg ⟨[.int .i64 z68.1, .int .i64 z68.2.1]⟩), (20, .int .i64 r53), (21, .int .i64 (w64 ((w64 (2 * r51)) + r53))), (22, .pointer (some ⟨1, 0, none⟩)), (23, .pointer (some ⟨1, 0, none⟩)), (24, .agg ⟨[.int .i64 z68.1, .int .i64 z68.2.1]⟩), (25, .int .i64 r55), (26, .int .i64 (w64 (2 * r55)))]), heap := [.cells 108 [.int .i64 0, .int .i64 0, .int .i64 0, .int .i64 0, .int .i64 0, .int .i64 0, .int .i64 0, .int .i64 0], .cells 108 [.int .i64 z68.1, .int .i64 z68.2.1, .int .i64 z68.2.2.1, .int .i64 z68.2.2.2.1, .int .i64 z68.2.2.2.2.1, .int .i64 z68.2.2.2.2.2.1, .int .i64 z68.2.2.2.2.2.2.1, .int .i64 z68.2.2.2.2.2.2.2]], own := [], upds := [] } : QSt)) (a1 := (st 73 [(2, .pointer (some ⟨0, 0, none⟩)), (3, .pointer (some ⟨1, 0, none⟩)), (4, .int .i64 r57), (9, .pointer (some ⟨1, 0, none⟩)), (10, .pointer (some ⟨1, 0, none⟩)), (11, .agg ⟨[.int .i64 z68.1, .int .i64 z68.2.1]⟩), (12, .pointer (some ⟨1, 0, none⟩)), (13, .pointer (some ⟨1, 2, none⟩)), (14, .agg ⟨[.int .i64 z68.2.2.1, .int .i64 z68.2.2.2.1]⟩), (15, .int .i64 r51), (16, .int .i64 (w64 (2 * r51))), (17, .pointer (some ⟨1, 0, none⟩)), (18, .pointer (some ⟨1, 0, none⟩)), (19, .agg ⟨[.int .i64 z68.1, .int .i64 z68.2.1]⟩), (20, .int .i64 r53), (21, .int .i64 (w64 ((w64 (2 * r51)) + r53))), (22, .pointer (some ⟨1, 0, none⟩)), (23, .pointer (some ⟨1, 0, none⟩)), (24, .agg ⟨[.int .i64 z68.1, .int .i64 z68.2.1]⟩), (25, .int .i64 r55), (26, .int .i64 (w64 (2 * r55))), (27, .int .i64 r57)])) (h1 := [.cells 108 [.int .i64 0, .int .i64 0, .int .i64 0, .int .i64 0, .int .i64 0, .int .i64 0, .int .i64 0, .int .i64 0], .cells 108 [.int .i64 z68.1, .int .i64 z68.2.1, .int .i64 z68.2.2.1, .int .i64 z68.2.2.2.1, .int .i64 z68.2.2.2.2.1, .int .i64 z68.2.2.2.2.2.1, .int .i64 z68.2.2.2.2.2.2.1, .int .i64 z68.2.2.2.2.2.2.2]]) (a2 := (st 73 [(2, .pointer (some ⟨0, 0, none⟩)), (3, .pointer (some ⟨1, 0, none⟩)), (4, .int .i64 r57)])) (h2 := [.cells 108 [.int .i64 0, .int .i64 0, .int .i64 0, .int .i64 0, .int .i64 0, .int .i64 0, .int .i64 0, .int .i64 0], .cells 108 [.int .i64 z68.1, .int .i64 z68.2.1, .int .i64 z68.2.2.1, .int .i64 z68.2.2.2.1, .int .i64 z68.2.2.2.2.1, .int .i64 z68.2.2.2.2.2.1, .int .i64 z68.2.2.2.2.2.2.1, .int .i64 z68.2.2.2.2.2.2.2]]) [⟨72, [.agg ⟨[.int .i64 z68.1, .int .i64 z68.2.1]⟩, .agg ⟨[.int .i64 z68.2.2.1, .int .i64 z68.2.2.2.1]⟩], [.cells 108 [.int .i64 0, .int .i64 0, .int .i64 0, .int .i64 0, .int .i64 0, .int .i64 0, .int .i64 0, .int .i64 0], .cells 108 [.int .i64 z68.1, .int .i64 z68.2.1, .int .i64 z68.2.2.1, .int .i64 z68.2.2.2.1, .int .i64 z68.2.2.2.2.1, .int .i64 z68.2.2.2.2.2.1, .int .i64 z68.2.2.2.2.2.2.1, .int .i64 z68.2.2.2.2.2.2.2]], .int .i64 r51, []⟩, ⟨63, [.agg ⟨[.int .i64 z68.1, .int .i64 z68.2.1]⟩], [.cells 108 [.int .i64 0, .int .i64 0, .int .i64 0, .int .i64 0, .int .i64 0, .int .i64 0, .int .i64 0, .int .i64 0], .cells 108 [.int .i64 z68.1, .int .i64 z68.2.1, .int .i64 z68.2.2.1, .int .i64 z68.2.2.2.1, .int .i64 z68.2.2.2.2.1, .int .i64 z68.2.2.2.2.2.1, .int .i64 z68.2.2.2.2.2.2.1, .int .i64 z68.2.2.2.2.2.2.2]], .int .i64 r53, []⟩, ⟨63, [.agg ⟨[.int .i64 z68.1, .int .i64 z68.2.1]⟩], [.cells 108 [.int .i64 0, .int .i64 0, .int .i64 0, .int .i64 0, .int .i64 0, .int .i64 0, .int .i64 0, .int .i64 0], .cells 108 [.int .i64 z68.1, .int .i64 z68.2.1, .int .i64 z68.2.2.1, .int .i64 z68.2.2.2.1, .int .i64 z68.2.2.2.2.1, .int .i64 z68.2.2.2.2.2.1, .int .i64 z68.2.2.2.2.2.2.1, .int .i64 z68.2.2.2.2.2.2.2]], .int .i64 r55, []⟩, ⟨69, [.int .i64 (w64 ((w64 (2 * r51)) + r53)), .int .i64 (w64 (2 * r55))], [.cells 108 [.int .i64 0, .int .i64 0, .int .i64 0, .int .i64 0, .int .i64 0, .int .i64 0, .int .i64 0, .int .i64 0], .cells 108 [.int .i64 z68.1, .int .i64 z68.2.1, .int .i64 z68.2.2.1, .int .i64 z68.2.2.2.1, .int .i64 z68.2.2.2.2.1, .int .i64 z68.2.2.2.2.2.1, .int .i64 z68.2.2.2.2.2.2.1, .int .i64 z68.2.2.2.2.2.2.2]], .int .i64 r57, []⟩] hT mixed (by kernel_rfl) rfl 18 (by kernel_rfl) [] ?_ rfl (.inl ⟨rfl, rfl⟩) ?_ [2, 3, 4] [0, 1] (by kernel_rfl) ?_
  · refine QI.run (s1 := ({ act := (st 73 [(2, .pointer (some ⟨0, 0, none⟩)), (3, .pointer (some ⟨1, 0, none⟩)), (9, .pointer (some ⟨1, 0, none⟩)), (10, .pointer (some ⟨1, 0, none⟩)), (11, .agg ⟨[.int .i64 z68.1, .int .i64 z68.2.1]⟩), (12, .pointer (some ⟨1, 0, none⟩)), (13, .pointer (some ⟨1, 2, none⟩)), (14, .agg ⟨[.int .i64 z68.2.2.1, .int .i64 z68.2.2.2.1]⟩)]), heap := [.cells 108 [.int .i64 0, .int .i64 0, .int .i64 0, .int .i64 0, .int .i64 0, .int .i64 0, .int .i64 0, .int .i64 0], .cells 108 [.int .i64 z68.1, .int .i64 z68.2.1, .int .i64 z68.2.2.1, .int .i64 z68.2.2.2.1, .int .i64 z68.2.2.2.2.1, .int .i64 z68.2.2.2.2.2.1, .int .i64 z68.2.2.2.2.2.2.1, .int .i64 z68.2.2.2.2.2.2.2]], own := [], upds := [] } : QSt)) 6 (by kernel_rfl) (by kernel_rfl) ?_
    refine QI.op (q := { val := .int .i64 r51, new := [] }) (s1 := ({ act := (st 73 [(2, .pointer (some ⟨0, 0, none⟩)), (3, .pointer (some ⟨1, 0, none⟩)), (9, .pointer (some ⟨1, 0, none⟩)), (10, .pointer (some ⟨1, 0, none⟩)), (11, .agg ⟨[.int .i64 z68.1, .int .i64 z68.2.1]⟩), (12, .pointer (some ⟨1, 0, none⟩)), (13, .pointer (some ⟨1, 2, none⟩)), (14, .agg ⟨[.int .i64 z68.2.2.1, .int .i64 z68.2.2.2.1]⟩), (15, .int .i64 r51)]), heap := [.cells 108 [.int .i64 0, .int .i64 0, .int .i64 0, .int .i64 0, .int .i64 0, .int .i64 0, .int .i64 0, .int .i64 0], .cells 108 [.int .i64 z68.1, .int .i64 z68.2.1, .int .i64 z68.2.2.1, .int .i64 z68.2.2.2.1, .int .i64 z68.2.2.2.2.1, .int .i64 z68.2.2.2.2.2.1, .int .i64 z68.2.2.2.2.2.2.1, .int .i64 z68.2.2.2.2.2.2.2]], own := [], upds := [] } : QSt)) (by decide) (qOf_call (g := 72) (args := [.agg ⟨[.int .i64 z68.1, .int .i64 z68.2.1]⟩, .agg ⟨[.int .i64 z68.2.2.1, .int .i64 z68.2.2.2.1]⟩]) (by kernel_rfl) lookC_hit) (by kernel_rfl) ?_
    refine QI.run (s1 := ({ act := (st 73 [(2, .pointer (some ⟨0, 0, none⟩)), (3, .pointer (some ⟨1, 0, none⟩)), (9, .pointer (some ⟨1, 0, none⟩)), (10, .pointer (some ⟨1, 0, none⟩)), (11, .agg ⟨[.int .i64 z68.1, .int .i64 z68.2.1]⟩), (12, .pointer (some ⟨1, 0, none⟩)), (13, .pointer (some ⟨1, 2, none⟩)), (14, .agg ⟨[.int .i64 z68.2.2.1, .int .i64 z68.2.2.2.1]⟩), (15, .int .i64 r51), (16, .int .i64 (w64 (2 * r51))), (17, .pointer (some ⟨1, 0, none⟩)), (18, .pointer (some ⟨1, 0, none⟩)), (19, .agg ⟨[.int .i64 z68.1, .int .i64 z68.2.1]⟩)]), heap := [.cells 108 [.int .i64 0, .int .i64 0, .int .i64 0, .int .i64 0, .int .i64 0, .int .i64 0, .int .i64 0, .int .i64 0], .cells 108 [.int .i64 z68.1, .int .i64 z68.2.1, .int .i64 z68.2.2.1, .int .i64 z68.2.2.2.1, .int .i64 z68.2.2.2.2.1, .int .i64 z68.2.2.2.2.2.1, .int .i64 z68.2.2.2.2.2.2.1, .int .i64 z68.2.2.2.2.2.2.2]], own := [], upds := [] } : QSt)) 4 (by kernel_rfl) (by kernel_rfl) ?_
    refine QI.op (q := { val := .int .i64 r53, new := [] }) (s1 := ({ act := (st 73 [(2, .pointer (some ⟨0, 0, none⟩)), (3, .pointer (some ⟨1, 0, none⟩)), (9, .pointer (some ⟨1, 0, none⟩)), (10, .pointer (some ⟨1, 0, none⟩)), (11, .agg ⟨[.int .i64 z68.1, .int .i64 z68.2.1]⟩), (12, .pointer (some ⟨1, 0, none⟩)), (13, .pointer (some ⟨1, 2, none⟩)), (14, .agg ⟨[.int .i64 z68.2.2.1, .int .i64 z68.2.2.2.1]⟩), (15, .int .i64 r51), (16, .int .i64 (w64 (2 * r51))), (17, .pointer (some ⟨1, 0, none⟩)), (18, .pointer (some ⟨1, 0, none⟩)), (19, .agg ⟨[.int .i64 z68.1, .int .i64 z68.2.1]⟩), (20, .int .i64 r53)]), heap := [.cells 108 [.int .i64 0, .int .i64 0, .int .i64 0, .int .i64 0, .int .i64 0, .int .i64 0, .int .i64 0, .int .i64 0], .cells 108 [.int .i64 z68.1, .int .i64 z68.2.1, .int .i64 z68.2.2.1, .int .i64 z68.2.2.2.1, .int .i64 z68.2.2.2.2.1, .int .i64 z68.2.2.2.2.2.1, .int .i64 z68.2.2.2.2.2.2.1, .int .i64 z68.2.2.2.2.2.2.2]], own := [], upds := [] } : QSt)) (by decide) (qOf_call (g := 63) (args := [.agg ⟨[.int .i64 z68.1, .int .i64 z68.2.1]⟩]) (by kernel_rfl) (lookC_skip (fun hg => absurd (show (72 : Nat) = 63 from hg) (by decide)) lookC_hit)) (by kernel_rfl) ?_
    refine QI.run (s1 := ({ act := (st 73 [(2, .pointer (some ⟨0, 0, none⟩)), (3, .pointer (some ⟨1, 0, none⟩)), (9, .pointer (some ⟨1, 0, none⟩)), (10, .pointer (some ⟨1, 0, none⟩)), (11, .agg ⟨[.int .i64 z68.1, .int .i64 z68.2.1]⟩), (12, .pointer (some ⟨1, 0, none⟩)), (13, .pointer (some ⟨1, 2, none⟩)), (14, .agg ⟨[.int .i64 z68.2.2.1, .int .i64 z68.2.2.2.1]⟩), (15, .int .i64 r51), (16, .int .i64 (w64 (2 * r51))), (17, .pointer (some ⟨1, 0, none⟩)), (18, .pointer (some ⟨1, 0, none⟩)), (19, .agg ⟨[.int .i64 z68.1, .int .i64 z68.2.1]⟩), (20, .int .i64 r53), (21, .int .i64 (w64 ((w64 (2 * r51)) + r53))), (22, .pointer (some ⟨1, 0, none⟩)), (23, .pointer (some ⟨1, 0, none⟩)), (24, .agg ⟨[.int .i64 z68.1, .int .i64 z68.2.1]⟩)]), heap := [.cells 108 [.int .i64 0, .int .i64 0, .int .i64 0, .int .i64 0, .int .i64 0, .int .i64 0, .int .i64 0, .int .i64 0], .cells 108 [.int .i64 z68.1, .int .i64 z68.2.1, .int .i64 z68.2.2.1, .int .i64 z68.2.2.2.1, .int .i64 z68.2.2.2.2.1, .int .i64 z68.2.2.2.2.2.1, .int .i64 z68.2.2.2.2.2.2.1, .int .i64 z68.2.2.2.2.2.2.2]], own := [], upds := [] } : QSt)) 4 (by kernel_rfl) (by kernel_rfl) ?_
    refine QI.op (q := { val := .int .i64 r55, new := [] }) (s1 := ({ act := (st 73 [(2, .pointer (some ⟨0, 0, none⟩)), (3, .pointer (some ⟨1, 0, none⟩)), (9, .pointer (some ⟨1, 0, none⟩)), (10, .pointer (some ⟨1, 0, none⟩)), (11, .agg ⟨[.int .i64 z68.1, .int .i64 z68.2.1]⟩), (12, .pointer (some ⟨1, 0, none⟩)), (13, .pointer (some ⟨1, 2, none⟩)), (14, .agg ⟨[.int .i64 z68.2.2.1, .int .i64 z68.2.2.2.1]⟩), (15, .int .i64 r51), (16, .int .i64 (w64 (2 * r51))), (17, .pointer (some ⟨1, 0, none⟩)), (18, .pointer (some ⟨1, 0, none⟩)), (19, .agg ⟨[.int .i64 z68.1, .int .i64 z68.2.1]⟩), (20, .int .i64 r53), (21, .int .i64 (w64 ((w64 (2 * r51)) + r53))), (22, .pointer (some ⟨1, 0, none⟩)), (23, .pointer (some ⟨1, 0, none⟩)), (24, .agg ⟨[.int .i64 z68.1, .int .i64 z68.2.1]⟩), (25, .int .i64 r55)]), heap := [.cells 108 [.int .i64 0, .int .i64 0, .int .i64 0, .int .i64 0, .int .i64 0, .int .i64 0, .int .i64 0, .int .i64 0], .cells 108 [.int .i64 z68.1, .int .i64 z68.2.1, .int .i64 z68.2.2.1, .int .i64 z68.2.2.2.1, .int .i64 z68.2.2.2.2.1, .int .i64 z68.2.2.2.2.2.1, .int .i64 z68.2.2.2.2.2.2.1, .int .i64 z68.2.2.2.2.2.2.2]], own := [], upds := [] } : QSt)) (by decide) (qOf_call (g := 63) (args := [.agg ⟨[.int .i64 z68.1, .int .i64 z68.2.1]⟩]) (by kernel_rfl) (lookC_skip (fun hg => absurd (show (72 : Nat) = 63 from hg) (by decide)) (lookC_skip (by intro _ ha _; have hq := h54; have hi := h56; clear hF; first | (exfalso; simp at ha; done) | ((try simp at ha); have hr := Option.some.inj (hq.symm.trans (Eq.trans (by first | rfl | (congr 1 <;> first | rfl | omega | simp_all)) hi)); subst hr; rfl)) lookC_hit))) (by kernel_rfl) ?_
    refine QI.run (s1 := ({ act := (st 73 [(2, .pointer (some ⟨0, 0, none⟩)), (3, .pointer (some ⟨1, 0, none⟩)), (9, .pointer (some ⟨1, 0, none⟩)), (10, .pointer (some ⟨1, 0, none⟩)), (11, .agg ⟨[.int .i64 z68.1, .int .i64 z68.2.1]⟩), (12, .pointer (some ⟨1, 0, none⟩)), (13, .pointer (some ⟨1, 2, none⟩)), (14, .agg ⟨[.int .i64 z68.2.2.1, .int .i64 z68.2.2.2.1]⟩), (15, .int .i64 r51), (16, .int .i64 (w64 (2 * r51))), (17, .pointer (some ⟨1, 0, none⟩)), (18, .pointer (some ⟨1, 0, none⟩)), (19, .agg ⟨[.int .i64 z68.1, .int .i64 z68.2.1]⟩), (20, .int .i64 r53), (21, .int .i64 (w64 ((w64 (2 * r51)) + r53))), (22, .pointer (some ⟨1, 0, none⟩)), (23, .pointer (some ⟨1, 0, none⟩)), (24, .agg ⟨[.int .i64 z68.1, .int .i64 z68.2.1]⟩), (25, .int .i64 r55), (26, .int .i64 (w64 (2 * r55)))]), heap := [.cells 108 [.int .i64 0, .int .i64 0, .int .i64 0, .int .i64 0, .int .i64 0, .int .i64 0, .int .i64 0, .int .i64 0], .cells 108 [.int .i64 z68.1, .int .i64 z68.2.1, .int .i64 z68.2.2.1, .int .i64 z68.2.2.2.1, .int .i64 z68.2.2.2.2.1, .int .i64 z68.2.2.2.2.2.1, .int .i64 z68.2.2.2.2.2.2.1, .int .i64 z68.2.2.2.2.2.2.2]], own := [], upds := [] } : QSt)) 1 (by kernel_rfl) (by kernel_rfl) ?_
    exact QI.done (by kernel_rfl)
  · refine SI.op (q := { val := .int .i64 r57, new := [] }) (a2 := (st 73 [(2, .pointer (some ⟨0, 0, none⟩)), (3, .pointer (some ⟨1, 0, none⟩)), (9, .pointer (some ⟨1, 0, none⟩)), (10, .pointer (some ⟨1, 0, none⟩)), (11, .agg ⟨[.int .i64 z68.1, .int .i64 z68.2.1]⟩), (12, .pointer (some ⟨1, 0, none⟩)), (13, .pointer (some ⟨1, 2, none⟩)), (14, .agg ⟨[.int .i64 z68.2.2.1, .int .i64 z68.2.2.2.1]⟩), (15, .int .i64 r51), (16, .int .i64 (w64 (2 * r51))), (17, .pointer (some ⟨1, 0, none⟩)), (18, .pointer (some ⟨1, 0, none⟩)), (19, .agg ⟨[.int .i64 z68.1, .int .i64 z68.2.1]⟩), (20, .int .i64 r53), (21, .int .i64 (w64 ((w64 (2 * r51)) + r53))), (22, .pointer (some ⟨1, 0, none⟩)), (23, .pointer (some ⟨1, 0, none⟩)), (24, .agg ⟨[.int .i64 z68.1, .int .i64 z68.2.1]⟩), (25, .int .i64 r55), (26, .int .i64 (w64 (2 * r55))), (27, .int .i64 r57)])) (h2 := [.cells 108 [.int .i64 0, .int .i64 0, .int .i64 0, .int .i64 0, .int .i64 0, .int .i64 0, .int .i64 0, .int .i64 0], .cells 108 [.int .i64 z68.1, .int .i64 z68.2.1, .int .i64 z68.2.2.1, .int .i64 z68.2.2.2.1, .int .i64 z68.2.2.2.2.1, .int .i64 z68.2.2.2.2.2.1, .int .i64 z68.2.2.2.2.2.2.1, .int .i64 z68.2.2.2.2.2.2.2]]) (by kernel_rfl) (qOf_call (g := 69) (args := [.int .i64 (w64 ((w64 (2 * r51)) + r53)), .int .i64 (w64 (2 * r55))]) (by kernel_rfl) (lookC_skip (fun hg => absurd (show (72 : Nat) = 69 from hg) (by decide)) (lookC_skip (fun hg => absurd (show (63 : Nat) = 69 from hg) (by decide)) (lookC_skip (fun hg => absurd (show (63 : Nat) = 69 from hg) (by decide)) lookC_hit)))) (by kernel_rfl) (by kernel_rfl) ?_
    refine SI.run (a2 := (st 73 [(2, .pointer (some ⟨0, 0, none⟩)), (3, .pointer (some ⟨1, 0, none⟩)), (4, .int .i64 r57), (9, .pointer (some ⟨1, 0, none⟩)), (10, .pointer (some ⟨1, 0, none⟩)), (11, .agg ⟨[.int .i64 z68.1, .int .i64 z68.2.1]⟩), (12, .pointer (some ⟨1, 0, none⟩)), (13, .pointer (some ⟨1, 2, none⟩)), (14, .agg ⟨[.int .i64 z68.2.2.1, .int .i64 z68.2.2.2.1]⟩), (15, .int .i64 r51), (16, .int .i64 (w64 (2 * r51))), (17, .pointer (some ⟨1, 0, none⟩)), (18, .pointer (some ⟨1, 0, none⟩)), (19, .agg ⟨[.int .i64 z68.1, .int .i64 z68.2.1]⟩), (20, .int .i64 r53), (21, .int .i64 (w64 ((w64 (2 * r51)) + r53))), (22, .pointer (some ⟨1, 0, none⟩)), (23, .pointer (some ⟨1, 0, none⟩)), (24, .agg ⟨[.int .i64 z68.1, .int .i64 z68.2.1]⟩), (25, .int .i64 r55), (26, .int .i64 (w64 (2 * r55))), (27, .int .i64 r57)])) (h2 := [.cells 108 [.int .i64 0, .int .i64 0, .int .i64 0, .int .i64 0, .int .i64 0, .int .i64 0, .int .i64 0, .int .i64 0], .cells 108 [.int .i64 z68.1, .int .i64 z68.2.1, .int .i64 z68.2.2.1, .int .i64 z68.2.2.2.1, .int .i64 z68.2.2.2.2.1, .int .i64 z68.2.2.2.2.2.1, .int .i64 z68.2.2.2.2.2.2.1, .int .i64 z68.2.2.2.2.2.2.2]]) 1 (by kernel_rfl) ?_
    exact SI.done (by kernel_rfl)
  refine TS.seq' (x := c61.s2.s2.bd.bd.bd.s2.s1) (y := c61.s2.s2.bd.bd.bd.s2.s2) (by kernel_rfl) ?_
  have hX := of_do hF
  clear hF
  obtain ⟨r59, h60, hF⟩ := hX
  have hX := of_do hF
  clear hF
  obtain ⟨r61, h62, hF⟩ := hX
  have hT : ∀ e ∈ ([⟨53, [.agg ⟨[.int .i64 z68.2.2.1, .int .i64 z68.2.2.2.1]⟩, .int .i64 (w64 (0 - r57)), .agg ⟨[.int .i64 z68.1, .int .i64 z68.2.1]⟩], [.cells 108 [.int .i64 0, .int .i64 0, .int .i64 0, .int .i64 0, .int .i64 0, .int .i64 0, .int .i64 0, .int .i64 0], .cells 108 [.int .i64 z68.1, .int .i64 z68.2.1, .int .i64 z68.2.2.1, .int .i64 z68.2.2.2.1, .int .i64 z68.2.2.2.2.1, .int .i64 z68.2.2.2.2.2.1, .int .i64 z68.2.2.2.2.2.2.1, .int .i64 z68.2.2.2.2.2.2.2]], .agg ⟨[.int .i64 r59.1, .int .i64 r59.2]⟩, []⟩, ⟨78, [.agg ⟨[.int .i64 z68.2.2.2.2.2.2.1, .int .i64 z68.2.2.2.2.2.2.2]⟩, .int .i64 (w64 (0 - r57)), .agg ⟨[.int .i64 z68.2.2.2.2.1, .int .i64 z68.2.2.2.2.2.1]⟩], [.cells 108 [.int .i64 0, .int .i64 0, .int .i64 0, .int .i64 0, .int .i64 0, .int .i64 0, .int .i64 0, .int .i64 0], .cells 108 [.int .i64 z68.1, .int .i64 z68.2.1, .int .i64 z68.2.2.1, .int .i64 z68.2.2.2.1, .int .i64 z68.2.2.2.2.1, .int .i64 z68.2.2.2.2.2.1, .int .i64 z68.2.2.2.2.2.2.1, .int .i64 z68.2.2.2.2.2.2.2]], .agg ⟨[.int .i64 r61.1, .int .i64 r61.2]⟩, []⟩] : List Entry), PureSim Try.prog e.g e.args e.h e.v e.new := by
    intro e he
    simp only [List.mem_cons, List.not_mem_nil, or_false] at he
    rcases he with rfl | rfl
    · exact (PureSim.any (C53 z68.2.2.1 z68.2.2.2.1 (w64 (0 - r57)) z68.1 z68.2.1 r59 h60) (flatL (by kernel_rfl)) (by kernel_rfl) [.cells 108 [.int .i64 0, .int .i64 0, .int .i64 0, .int .i64 0, .int .i64 0, .int .i64 0, .int .i64 0, .int .i64 0], .cells 108 [.int .i64 z68.1, .int .i64 z68.2.1, .int .i64 z68.2.2.1, .int .i64 z68.2.2.2.1, .int .i64 z68.2.2.2.2.1, .int .i64 z68.2.2.2.2.2.1, .int .i64 z68.2.2.2.2.2.2.1, .int .i64 z68.2.2.2.2.2.2.2]])
    · exact (PureSim.any (C78 z68.2.2.2.2.2.2.1 z68.2.2.2.2.2.2.2 (w64 (0 - r57)) z68.2.2.2.2.1 z68.2.2.2.2.2.1 r61 h62) (flatL (by kernel_rfl)) (by kernel_rfl) [.cells 108 [.int .i64 0, .int .i64 0, .int .i64 0, .int .i64 0, .int .i64 0, .int .i64 0, .int .i64 0, .int .i64 0], .cells 108 [.int .i64 z68.1, .int .i64 z68.2.1, .int .i64 z68.2.2.1, .int .i64 z68.2.2.2.1, .int .i64 z68.2.2.2.2.1, .int .i64 z68.2.2.2.2.2.1, .int .i64 z68.2.2.2.2.2.2.1, .int .i64 z68.2.2.2.2.2.2.2]])
  refine TS.draw' (id := 3) (b := true) (ops := c61.s2.s2.bd.bd.bd.s2.s1.rops) (fin := ({ act := (st 73 [(2, .pointer (some ⟨0, 0, none⟩)), (3, .pointer (some ⟨1, 0, none⟩)), (4, .int .i64 r57), (28, .pointer (some ⟨1, 0, none⟩)), (29, .pointer (some ⟨1, 2, none⟩)), (30, .agg ⟨[.int .i64 z68.2.2.1, .int .i64 z68.2.2.2.1]⟩), (31, .int .i64 r57), (32, .int .i64 (w64 (0 - r57))), (33, .pointer (some ⟨1, 0, none⟩)), (34, .pointer (some ⟨1, 0, none⟩)), (35, .agg ⟨[.int .i64 z68.1, .int .i64 z68.2.1]⟩), (36, .agg ⟨[.int .i64 r59.1, .int .i64 r59.2]⟩), (37, .pointer (some ⟨1, 6, none⟩)), (38, .agg ⟨[.int .i64 z68.2.2.2.2.2.2.1, .int .i64 z68.2.2.2.2.2.2.2]⟩), (39, .int .i64 r57), (40, .int .i64 (w64 (0 - r57))), (41, .pointer (some ⟨1, 4, none⟩)), (42, .agg ⟨[.int .i64 z68.2.2.2.2.1, .int .i64 z68.2.2.2.2.2.1]⟩), (43, .agg ⟨[.int .i64 r61.1, .int .i64 r61.2]⟩), (44, .pointer (some ⟨1, 0, none⟩)), (45, .pointer (some ⟨1, 2, none⟩))]), heap := [.cells 108 [.int .i64 0, .int .i64 0, .int .i64 0, .int .i64 0, .int .i64 0, .int .i64 0, .int .i64 0, .int .i64 0], .cells 108 [.int .i64 z68.1, .int .i64 z68.2.1, .int .i64 z68.2.2.1, .int .i64 z68.2.2.2.1, .int .i64 z68.2.2.2.2.1, .int .i64 z68.2.2.2.2.2.1, .int .i64 z68.2.2.2.2.2.2.1, .int .i64 z68.2.2.2.2.2.2.2]], own := [], upds := [] } : QSt)) (fin2 := ({ act := (st 73 [(2, .pointer (some ⟨0, 0, none⟩)), (3, .pointer (some ⟨1, 0, none⟩)), (4, .int .i64 r57), (28, .pointer (some ⟨1, 0, none⟩)), (29, .pointer (some ⟨1, 2, none⟩)), (30, .agg ⟨[.int .i64 z68.2.2.1, .int .i64 z68.2.2.2.1]⟩), (31, .int .i64 r57), (32, .int .i64 (w64 (0 - r57))), (33, .pointer (some ⟨1, 0, none⟩)), (34, .pointer (some ⟨1, 0, none⟩)), (35, .agg ⟨[.int .i64 z68.1, .int .i64 z68.2.1]⟩), (36, .agg ⟨[.int .i64 r59.1, .int .i64 r59.2]⟩), (37, .pointer (some ⟨1, 6, none⟩)), (38, .agg ⟨[.int .i64 z68.2.2.2.2.2.2.1, .int .i64 z68.2.2.2.2.2.2.2]⟩), (39, .int .i64 r57), (40, .int .i64 (w64 (0 - r57))), (41, .pointer (some ⟨1, 4, none⟩)), (42, .agg ⟨[.int .i64 z68.2.2.2.2.1, .int .i64 z68.2.2.2.2.2.1]⟩), (43, .agg ⟨[.int .i64 r61.1, .int .i64 r61.2]⟩), (44, .pointer (some ⟨1, 0, none⟩)), (45, .pointer (some ⟨1, 2, none⟩))]), heap := [.cells 108 [.int .i64 0, .int .i64 0, .int .i64 0, .int .i64 0, .int .i64 0, .int .i64 0, .int .i64 0, .int .i64 0], .cells 108 [.int .i64 z68.1, .int .i64 z68.2.1, .int .i64 z68.2.2.1, .int .i64 z68.2.2.2.1, .int .i64 z68.2.2.2.2.1, .int .i64 z68.2.2.2.2.2.1, .int .i64 z68.2.2.2.2.2.2.1, .int .i64 z68.2.2.2.2.2.2.2]], own := [], upds := [] } : QSt)) (a1 := (st 73 [(2, .pointer (some ⟨0, 0, none⟩)), (3, .pointer (some ⟨1, 0, none⟩)), (4, .int .i64 r57), (28, .pointer (some ⟨1, 0, none⟩)), (29, .pointer (some ⟨1, 2, none⟩)), (30, .agg ⟨[.int .i64 z68.2.2.1, .int .i64 z68.2.2.2.1]⟩), (31, .int .i64 r57), (32, .int .i64 (w64 (0 - r57))), (33, .pointer (some ⟨1, 0, none⟩)), (34, .pointer (some ⟨1, 0, none⟩)), (35, .agg ⟨[.int .i64 z68.1, .int .i64 z68.2.1]⟩), (36, .agg ⟨[.int .i64 r59.1, .int .i64 r59.2]⟩), (37, .pointer (some ⟨1, 6, none⟩)), (38, .agg ⟨[.int .i64 z68.2.2.2.2.2.2.1, .int .i64 z68.2.2.2.2.2.2.2]⟩), (39, .int .i64 r57), (40, .int .i64 (w64 (0 - r57))), (41, .pointer (some ⟨1, 4, none⟩)), (42, .agg ⟨[.int .i64 z68.2.2.2.2.1, .int .i64 z68.2.2.2.2.2.1]⟩), (43, .agg ⟨[.int .i64 r61.1, .int .i64 r61.2]⟩), (44, .pointer (some ⟨1, 0, none⟩)), (45, .pointer (some ⟨1, 2, none⟩)), (46, .pointer (some ⟨1, 6, none⟩))])) (h1 := [.cells 108 [.int .i64 0, .int .i64 0, .int .i64 0, .int .i64 0, .int .i64 0, .int .i64 0, .int .i64 0, .int .i64 0], .cells 108 [.int .i64 z68.1, .int .i64 z68.2.1, .int .i64 r59.1, .int .i64 r59.2, .int .i64 z68.2.2.2.2.1, .int .i64 z68.2.2.2.2.2.1, .int .i64 r61.1, .int .i64 r61.2]]) (a2 := (st 73 [(2, .pointer (some ⟨0, 0, none⟩)), (3, .pointer (some ⟨1, 0, none⟩))])) (h2 := [.cells 108 [.int .i64 0, .int .i64 0, .int .i64 0, .int .i64 0, .int .i64 0, .int .i64 0, .int .i64 0, .int .i64 0], .cells 108 [.int .i64 z68.1, .int .i64 z68.2.1, .int .i64 r59.1, .int .i64 r59.2, .int .i64 z68.2.2.2.2.1, .int .i64 z68.2.2.2.2.2.1, .int .i64 r61.1, .int .i64 r61.2]]) [⟨53, [.agg ⟨[.int .i64 z68.2.2.1, .int .i64 z68.2.2.2.1]⟩, .int .i64 (w64 (0 - r57)), .agg ⟨[.int .i64 z68.1, .int .i64 z68.2.1]⟩], [.cells 108 [.int .i64 0, .int .i64 0, .int .i64 0, .int .i64 0, .int .i64 0, .int .i64 0, .int .i64 0, .int .i64 0], .cells 108 [.int .i64 z68.1, .int .i64 z68.2.1, .int .i64 z68.2.2.1, .int .i64 z68.2.2.2.1, .int .i64 z68.2.2.2.2.1, .int .i64 z68.2.2.2.2.2.1, .int .i64 z68.2.2.2.2.2.2.1, .int .i64 z68.2.2.2.2.2.2.2]], .agg ⟨[.int .i64 r59.1, .int .i64 r59.2]⟩, []⟩, ⟨78, [.agg ⟨[.int .i64 z68.2.2.2.2.2.2.1, .int .i64 z68.2.2.2.2.2.2.2]⟩, .int .i64 (w64 (0 - r57)), .agg ⟨[.int .i64 z68.2.2.2.2.1, .int .i64 z68.2.2.2.2.2.1]⟩], [.cells 108 [.int .i64 0, .int .i64 0, .int .i64 0, .int .i64 0, .int .i64 0, .int .i64 0, .int .i64 0, .int .i64 0], .cells 108 [.int .i64 z68.1, .int .i64 z68.2.1, .int .i64 z68.2.2.1, .int .i64 z68.2.2.2.1, .int .i64 z68.2.2.2.2.1, .int .i64 z68.2.2.2.2.2.1, .int .i64 z68.2.2.2.2.2.2.1, .int .i64 z68.2.2.2.2.2.2.2]], .agg ⟨[.int .i64 r61.1, .int .i64 r61.2]⟩, []⟩] hT mixed (by kernel_rfl) rfl 18 (by kernel_rfl) [] ?_ rfl (.inl ⟨rfl, rfl⟩) ?_ [2, 3] [0, 1] (by kernel_rfl) ?_
  · refine QI.run (s1 := ({ act := (st 73 [(2, .pointer (some ⟨0, 0, none⟩)), (3, .pointer (some ⟨1, 0, none⟩)), (4, .int .i64 r57), (28, .pointer (some ⟨1, 0, none⟩)), (29, .pointer (some ⟨1, 2, none⟩)), (30, .agg ⟨[.int .i64 z68.2.2.1, .int .i64 z68.2.2.2.1]⟩), (31, .int .i64 r57), (32, .int .i64 (w64 (0 - r57))), (33, .pointer (some ⟨1, 0, none⟩)), (34, .pointer (some ⟨1, 0, none⟩)), (35, .agg ⟨[.int .i64 z68.1, .int .i64 z68.2.1]⟩)]), heap := [.cells 108 [.int .i64 0, .int .i64 0, .int .i64 0, .int .i64 0, .int .i64 0, .int .i64 0, .int .i64 0, .int .i64 0], .cells 108 [.int .i64 z68.1, .int .i64 z68.2.1, .int .i64 z68.2.2.1, .int .i64 z68.2.2.2.1, .int .i64 z68.2.2.2.2.1, .int .i64 z68.2.2.2.2.2.1, .int .i64 z68.2.2.2.2.2.2.1, .int .i64 z68.2.2.2.2.2.2.2]], own := [], upds := [] } : QSt)) 8 (by kernel_rfl) (by kernel_rfl) ?_
    refine QI.op (q := { val := .agg ⟨[.int .i64 r59.1, .int .i64 r59.2]⟩, new := [] }) (s1 := ({ act := (st 73 [(2, .pointer (some ⟨0, 0, none⟩)), (3, .pointer (some ⟨1, 0, none⟩)), (4, .int .i64 r57), (28, .pointer (some ⟨1, 0, none⟩)), (29, .pointer (some ⟨1, 2, none⟩)), (30, .agg ⟨[.int .i64 z68.2.2.1, .int .i64 z68.2.2.2.1]⟩), (31, .int .i64 r57), (32, .int .i64 (w64 (0 - r57))), (33, .pointer (some ⟨1, 0, none⟩)), (34, .pointer (some ⟨1, 0, none⟩)), (35, .agg ⟨[.int .i64 z68.1, .int .i64 z68.2.1]⟩), (36, .agg ⟨[.int .i64 r59.1, .int .i64 r59.2]⟩)]), heap := [.cells 108 [.int .i64 0, .int .i64 0, .int .i64 0, .int .i64 0, .int .i64 0, .int .i64 0, .int .i64 0, .int .i64 0], .cells 108 [.int .i64 z68.1, .int .i64 z68.2.1, .int .i64 z68.2.2.1, .int .i64 z68.2.2.2.1, .int .i64 z68.2.2.2.2.1, .int .i64 z68.2.2.2.2.2.1, .int .i64 z68.2.2.2.2.2.2.1, .int .i64 z68.2.2.2.2.2.2.2]], own := [], upds := [] } : QSt)) (by decide) (qOf_call (g := 53) (args := [.agg ⟨[.int .i64 z68.2.2.1, .int .i64 z68.2.2.2.1]⟩, .int .i64 (w64 (0 - r57)), .agg ⟨[.int .i64 z68.1, .int .i64 z68.2.1]⟩]) (by kernel_rfl) lookC_hit) (by kernel_rfl) ?_
    refine QI.run (s1 := ({ act := (st 73 [(2, .pointer (some ⟨0, 0, none⟩)), (3, .pointer (some ⟨1, 0, none⟩)), (4, .int .i64 r57), (28, .pointer (some ⟨1, 0, none⟩)), (29, .pointer (some ⟨1, 2, none⟩)), (30, .agg ⟨[.int .i64 z68.2.2.1, .int .i64 z68.2.2.2.1]⟩), (31, .int .i64 r57), (32, .int .i64 (w64 (0 - r57))), (33, .pointer (some ⟨1, 0, none⟩)), (34, .pointer (some ⟨1, 0, none⟩)), (35, .agg ⟨[.int .i64 z68.1, .int .i64 z68.2.1]⟩), (36, .agg ⟨[.int .i64 r59.1, .int .i64 r59.2]⟩), (37, .pointer (some ⟨1, 6, none⟩)), (38, .agg ⟨[.int .i64 z68.2.2.2.2.2.2.1, .int .i64 z68.2.2.2.2.2.2.2]⟩), (39, .int .i64 r57), (40, .int .i64 (w64 (0 - r57))), (41, .pointer (some ⟨1, 4, none⟩)), (42, .agg ⟨[.int .i64 z68.2.2.2.2.1, .int .i64 z68.2.2.2.2.2.1]⟩)]), heap := [.cells 108 [.int .i64 0, .int .i64 0, .int .i64 0, .int .i64 0, .int .i64 0, .int .i64 0, .int .i64 0, .int .i64 0], .cells 108 [.int .i64 z68.1, .int .i64 z68.2.1, .int .i64 z68.2.2.1, .int .i64 z68.2.2.2.1, .int .i64 z68.2.2.2.2.1, .int .i64 z68.2.2.2.2.2.1, .int .i64 z68.2.2.2.2.2.2.1, .int .i64 z68.2.2.2.2.2.2.2]], own := [], upds := [] } : QSt)) 6 (by kernel_rfl) (by kernel_rfl) ?_
    refine QI.op (q := { val := .agg ⟨[.int .i64 r61.1, .int .i64 r61.2]⟩, new := [] }) (s1 := ({ act := (st 73 [(2, .pointer (some ⟨0, 0, none⟩)), (3, .pointer (some ⟨1, 0, none⟩)), (4, .int .i64 r57), (28, .pointer (some ⟨1, 0, none⟩)), (29, .pointer (some ⟨1, 2, none⟩)), (30, .agg ⟨[.int .i64 z68.2.2.1, .int .i64 z68.2.2.2.1]⟩), (31, .int .i64 r57), (32, .int .i64 (w64 (0 - r57))), (33, .pointer (some ⟨1, 0, none⟩)), (34, .pointer (some ⟨1, 0, none⟩)), (35, .agg ⟨[.int .i64 z68.1, .int .i64 z68.2.1]⟩), (36, .agg ⟨[.int .i64 r59.1, .int .i64 r59.2]⟩), (37, .pointer (some ⟨1, 6, none⟩)), (38, .agg ⟨[.int .i64 z68.2.2.2.2.2.2.1, .int .i64 z68.2.2.2.2.2.2.2]⟩), (39, .int .i64 r57), (40, .int .i64 (w64 (0 - r57))), (41, .pointer (some ⟨1, 4, none⟩)), (42, .agg ⟨[.int .i64 z68.2.2.2.2.1, .int .i64 z68.2.2.2.2.2.1]⟩), (43, .agg ⟨[.int .i64 r61.1, .int .i64 r61.2]⟩)]), heap := [.cells 108 [.int .i64 0, .int .i64 0, .int .i64 0, .int .i64 0, .int .i64 0, .int .i64 0, .int .i64 0, .int .i64 0], .cells 108 [.int .i64 z68.1, .int .i64 z68.2.1, .int .i64 z68.2.2.1, .int .i64 z68.2.2.2.1, .int .i64 z68.2.2.2.2.1, .int .i64 z68.2.2.2.2.2.1, .int .i64 z68.2.2.2.2.2.2.1, .int .i64 z68.2.2.2.2.2.2.2]], own := [], upds := [] } : QSt)) (by decide) (qOf_call (g := 78) (args := [.agg ⟨[.int .i64 z68.2.2.2.2.2.2.1, .int .i64 z68.2.2.2.2.2.2.2]⟩, .int .i64 (w64 (0 - r57)), .agg ⟨[.int .i64 z68.2.2.2.2.1, .int .i64 z68.2.2.2.2.2.1]⟩]) (by kernel_rfl) (lookC_skip (fun hg => absurd (show (53 : Nat) = 78 from hg) (by decide)) lookC_hit)) (by kernel_rfl) ?_
    refine QI.run (s1 := ({ act := (st 73 [(2, .pointer (some ⟨0, 0, none⟩)), (3, .pointer (some ⟨1, 0, none⟩)), (4, .int .i64 r57), (28, .pointer (some ⟨1, 0, none⟩)), (29, .pointer (some ⟨1, 2, none⟩)), (30, .agg ⟨[.int .i64 z68.2.2.1, .int .i64 z68.2.2.2.1]⟩), (31, .int .i64 r57), (32, .int .i64 (w64 (0 - r57))), (33, .pointer (some ⟨1, 0, none⟩)), (34, .pointer (some ⟨1, 0, none⟩)), (35, .agg ⟨[.int .i64 z68.1, .int .i64 z68.2.1]⟩), (36, .agg ⟨[.int .i64 r59.1, .int .i64 r59.2]⟩), (37, .pointer (some ⟨1, 6, none⟩)), (38, .agg ⟨[.int .i64 z68.2.2.2.2.2.2.1, .int .i64 z68.2.2.2.2.2.2.2]⟩), (39, .int .i64 r57), (40, .int .i64 (w64 (0 - r57))), (41, .pointer (some ⟨1, 4, none⟩)), (42, .agg ⟨[.int .i64 z68.2.2.2.2.1, .int .i64 z68.2.2.2.2.2.1]⟩), (43, .agg ⟨[.int .i64 r61.1, .int .i64 r61.2]⟩), (44, .pointer (some ⟨1, 0, none⟩)), (45, .pointer (some ⟨1, 2, none⟩))]), heap := [.cells 108 [.int .i64 0, .int .i64 0, .int .i64 0, .int .i64 0, .int .i64 0, .int .i64 0, .int .i64 0, .int .i64 0], .cells 108 [.int .i64 z68.1, .int .i64 z68.2.1, .int .i64 z68.2.2.1, .int .i64 z68.2.2.2.1, .int .i64 z68.2.2.2.2.1, .int .i64 z68.2.2.2.2.2.1, .int .i64 z68.2.2.2.2.2.2.1, .int .i64 z68.2.2.2.2.2.2.2]], own := [], upds := [] } : QSt)) 2 (by kernel_rfl) (by kernel_rfl) ?_
    exact QI.done (by kernel_rfl)
  · refine SI.run (a2 := (st 73 [(2, .pointer (some ⟨0, 0, none⟩)), (3, .pointer (some ⟨1, 0, none⟩)), (4, .int .i64 r57), (28, .pointer (some ⟨1, 0, none⟩)), (29, .pointer (some ⟨1, 2, none⟩)), (30, .agg ⟨[.int .i64 z68.2.2.1, .int .i64 z68.2.2.2.1]⟩), (31, .int .i64 r57), (32, .int .i64 (w64 (0 - r57))), (33, .pointer (some ⟨1, 0, none⟩)), (34, .pointer (some ⟨1, 0, none⟩)), (35, .agg ⟨[.int .i64 z68.1, .int .i64 z68.2.1]⟩), (36, .agg ⟨[.int .i64 r59.1, .int .i64 r59.2]⟩), (37, .pointer (some ⟨1, 6, none⟩)), (38, .agg ⟨[.int .i64 z68.2.2.2.2.2.2.1, .int .i64 z68.2.2.2.2.2.2.2]⟩), (39, .int .i64 r57), (40, .int .i64 (w64 (0 - r57))), (41, .pointer (some ⟨1, 4, none⟩)), (42, .agg ⟨[.int .i64 z68.2.2.2.2.1, .int .i64 z68.2.2.2.2.2.1]⟩), (43, .agg ⟨[.int .i64 r61.1, .int .i64 r61.2]⟩), (44, .pointer (some ⟨1, 0, none⟩)), (45, .pointer (some ⟨1, 2, none⟩)), (46, .pointer (some ⟨1, 6, none⟩))])) (h2 := [.cells 108 [.int .i64 0, .int .i64 0, .int .i64 0, .int .i64 0, .int .i64 0, .int .i64 0, .int .i64 0, .int .i64 0], .cells 108 [.int .i64 z68.1, .int .i64 z68.2.1, .int .i64 r59.1, .int .i64 r59.2, .int .i64 z68.2.2.2.2.1, .int .i64 z68.2.2.2.2.2.1, .int .i64 r61.1, .int .i64 r61.2]]) 3 (by kernel_rfl) ?_
    exact SI.done (by kernel_rfl)
  refine TS.seq' (x := c61.s2.s2.bd.bd.bd.s2.s2.s1) (y := c61.s2.s2.bd.bd.bd.s2.s2.s2) (by kernel_rfl) ?_
  refine TS.seq' (x := c61.s2.s2.bd.bd.bd.s2.s2.s1.s1) (y := c61.s2.s2.bd.bd.bd.s2.s2.s1.s2) (by kernel_rfl) ?_
  have hX := of_do hF
  clear hF
  obtain ⟨r63, h64, hF⟩ := hX
  have hX := of_do hF
  clear hF
  obtain ⟨r65, h66, hF⟩ := hX
  have hT : ∀ e ∈ ([⟨63, [.agg ⟨[.int .i64 z68.1, .int .i64 z68.2.1]⟩], [.cells 108 [.int .i64 0, .int .i64 0, .int .i64 0, .int .i64 0, .int .i64 0, .int .i64 0, .int .i64 0, .int .i64 0], .cells 108 [.int .i64 z68.1, .int .i64 z68.2.1, .int .i64 r59.1, .int .i64 r59.2, .int .i64 z68.2.2.2.2.1, .int .i64 z68.2.2.2.2.2.1, .int .i64 r61.1, .int .i64 r61.2]], .int .i64 r63, []⟩, ⟨63, [.agg ⟨[.int .i64 r59.1, .int .i64 r59.2]⟩], [.cells 108 [.int .i64 0, .int .i64 0, .int .i64 0, .int .i64 0, .int .i64 0, .int .i64 0, .int .i64 0, .int .i64 0], .cells 108 [.int .i64 z68.1, .int .i64 z68.2.1, .int .i64 r59.1, .int .i64 r59.2, .int .i64 z68.2.2.2.2.1, .int .i64 z68.2.2.2.2.2.1, .int .i64 r61.1, .int .i64 r61.2]], .int .i64 r65, []⟩] : List Entry), PureSim Try.prog e.g e.args e.h e.v e.new := by
    intro e he
    simp only [List.mem_cons, List.not_mem_nil, or_false] at he
    rcases he with rfl | rfl
    · exact (PureSim.any (C63 z68.1 z68.2.1 r63 h64) (flatL (by kernel_rfl)) (by kernel_rfl) [.cells 108 [.int .i64 0, .int .i64 0, .int .i64 0, .int .i64 0, .int .i64 0, .int .i64 0, .int .i64 0, .int .i64 0], .cells 108 [.int .i64 z68.1, .int .i64 z68.2.1, .int .i64 r59.1, .int .i64 r59.2, .int .i64 z68.2.2.2.2.1, .int .i64 z68.2.2.2.2.2.1, .int .i64 r61.1, .int .i64 r61.2]])
    · exact (PureSim.any (C63 r59.1 r59.2 r65 h66) (flatL (by kernel_rfl)) (by kernel_rfl) [.cells 108 [.int .i64 0, .int .i64 0, .int .i64 0, .int .i64 0, .int .i64 0, .int .i64 0, .int .i64 0, .int .i64 0], .cells 108 [.int .i64 z68.1, .int .i64 z68.2.1, .int .i64 r59.1, .int .i64 r59.2, .int .i64 z68.2.2.2.2.1, .int .i64 z68.2.2.2.2.2.1, .int .i64 r61.1, .int .i64 r61.2]])
  refine TS.draw' (id := 4) (b := true) (ops := c61.s2.s2.bd.bd.bd.s2.s2.s1.s1.rops) (fin := ({ act := (st 73 [(2, .pointer (some ⟨0, 0, none⟩)), (3, .pointer (some ⟨1, 0, none⟩)), (47, .pointer (some ⟨1, 0, none⟩)), (48, .pointer (some ⟨1, 0, none⟩)), (49, .agg ⟨[.int .i64 z68.1, .int .i64 z68.2.1]⟩), (50, .int .i64 r63), (51, .pointer (some ⟨1, 0, none⟩)), (52, .pointer (some ⟨1, 2, none⟩)), (53, .agg ⟨[.int .i64 r59.1, .int .i64 r59.2]⟩)]), heap := [.cells 108 [.int .i64 0, .int .i64 0, .int .i64 0, .int .i64 0, .int .i64 0, .int .i64 0, .int .i64 0, .int .i64 0], .cells 108 [.int .i64 z68.1, .int .i64 z68.2.1, .int .i64 r59.1, .int .i64 r59.2, .int .i64 z68.2.2.2.2.1, .int .i64 z68.2.2.2.2.2.1, .int .i64 r61.1, .int .i64 r61.2]], own := [], upds := [] } : QSt)) (fin2 := ({ act := (st 73 [(2, .pointer (some ⟨0, 0, none⟩)), (3, .pointer (some ⟨1, 0, none⟩)), (47, .pointer (some ⟨1, 0, none⟩)), (48, .pointer (some ⟨1, 0, none⟩)), (49, .agg ⟨[.int .i64 z68.1, .int .i64 z68.2.1]⟩), (50, .int .i64 r63), (51, .pointer (some ⟨1, 0, none⟩)), (52, .pointer (some ⟨1, 2, none⟩)), (53, .agg ⟨[.int .i64 r59.1, .int .i64 r59.2]⟩)]), heap := [.cells 108 [.int .i64 0, .int .i64 0, .int .i64 0, .int .i64 0, .int .i64 0, .int .i64 0, .int .i64 0, .int .i64 0], .cells 108 [.int .i64 z68.1, .int .i64 z68.2.1, .int .i64 r59.1, .int .i64 r59.2, .int .i64 z68.2.2.2.2.1, .int .i64 z68.2.2.2.2.2.1, .int .i64 r61.1, .int .i64 r61.2]], own := [], upds := [] } : QSt)) (a1 := (st 73 [(2, .pointer (some ⟨0, 0, none⟩)), (3, .pointer (some ⟨1, 0, none⟩)), (47, .pointer (some ⟨1, 0, none⟩)), (48, .pointer (some ⟨1, 0, none⟩)), (49, .agg ⟨[.int .i64 z68.1, .int .i64 z68.2.1]⟩), (50, .int .i64 r63), (51, .pointer (some ⟨1, 0, none⟩)), (52, .pointer (some ⟨1, 2, none⟩)), (53, .agg ⟨[.int .i64 r59.1, .int .i64 r59.2]⟩), (54, .int .i64 r65), (55, .bool (decide (r63 ≤ r65)))])) (h1 := [.cells 108 [.int .i64 0, .int .i64 0, .int .i64 0, .int .i64 0, .int .i64 0, .int .i64 0, .int .i64 0, .int .i64 0], .cells 108 [.int .i64 z68.1, .int .i64 z68.2.1, .int .i64 r59.1, .int .i64 r59.2, .int .i64 z68.2.2.2.2.1, .int .i64 z68.2.2.2.2.2.1, .int .i64 r61.1, .int .i64 r61.2]]) (a2 := (st 73 [(2, .pointer (some ⟨0, 0, none⟩)), (3, .pointer (some ⟨1, 0, none⟩)), (55, .bool (decide (r63 ≤ r65)))])) (h2 := [.cells 108 [.int .i64 0, .int .i64 0, .int .i64 0, .int .i64 0, .int .i64 0, .int .i64 0, .int .i64 0, .int .i64 0], .cells 108 [.int .i64 z68.1, .int .i64 z68.2.1, .int .i64 r59.1, .int .i64 r59.2, .int .i64 z68.2.2.2.2.1, .int .i64 z68.2.2.2.2.2.1, .int .i64 r61.1, .int .i64 r61.2]]) [⟨63, [.agg ⟨[.int .i64 z68.1, .int .i64 z68.2.1]⟩], [.cells 108 [.int .i64 0, .int .i64 0, .int .i64 0, .int .i64 0, .int .i64 0, .int .i64 0, .int .i64 0, .int .i64 0], .cells 108 [.int .i64 z68.1, .int .i64 z68.2.1, .int .i64 r59.1, .int .i64 r59.2, .int .i64 z68.2.2.2.2.1, .int .i64 z68.2.2.2.2.2.1, .int .i64 r61.1, .int .i64 r61.2]], .int .i64 r63, []⟩, ⟨63, [.agg ⟨[.int .i64 r59.1, .int .i64 r59.2]⟩], [.cells 108 [.int .i64 0, .int .i64 0, .int .i64 0, .int .i64 0, .int .i64 0, .int .i64 0, .int .i64 0, .int .i64 0], .cells 108 [.int .i64 z68.1, .int .i64 z68.2.1, .int .i64 r59.1, .int .i64 r59.2, .int .i64 z68.2.2.2.2.1, .int .i64 z68.2.2.2.2.2.1, .int .i64 r61.1, .int .i64 r61.2]], .int .i64 r65, []⟩] hT mixed (by kernel_rfl) rfl 7 (by kernel_rfl) [] ?_ rfl (.inl ⟨rfl, rfl⟩) ?_ [2, 3, 55] [0, 1] (by kernel_rfl) ?_
  · refine QI.run (s1 := ({ act := (st 73 [(2, .pointer (some ⟨0, 0, none⟩)), (3, .pointer (some ⟨1, 0, none⟩)), (47, .pointer (some ⟨1, 0, none⟩)), (48, .pointer (some ⟨1, 0, none⟩)), (49, .agg ⟨[.int .i64 z68.1, .int .i64 z68.2.1]⟩)]), heap := [.cells 108 [.int .i64 0, .int .i64 0, .int .i64 0, .int .i64 0, .int .i64 0, .int .i64 0, .int .i64 0, .int .i64 0], .cells 108 [.int .i64 z68.1, .int .i64 z68.2.1, .int .i64 r59.1, .int .i64 r59.2, .int .i64 z68.2.2.2.2.1, .int .i64 z68.2.2.2.2.2.1, .int .i64 r61.1, .int .i64 r61.2]], own := [], upds := [] } : QSt)) 3 (by kernel_rfl) (by kernel_rfl) ?_
    refine QI.op (q := { val := .int .i64 r63, new := [] }) (s1 := ({ act := (st 73 [(2, .pointer (some ⟨0, 0, none⟩)), (3, .pointer (some ⟨1, 0, none⟩)), (47, .pointer (some ⟨1, 0, none⟩)), (48, .pointer (some ⟨1, 0, none⟩)), (49, .agg ⟨[.int .i64 z68.1, .int .i64 z68.2.1]⟩), (50, .int .i64 r63)]), heap := [.cells 108 [.int .i64 0, .int .i64 0, .int .i64 0, .int .i64 0, .int .i64 0, .int .i64 0, .int .i64 0, .int .i64 0], .cells 108 [.int .i64 z68.1, .int .i64 z68.2.1, .int .i64 r59.1, .int .i64 r59.2, .int .i64 z68.2.2.2.2.1, .int .i64 z68.2.2.2.2.2.1, .int .i64 r61.1, .int .i64 r61.2]], own := [], upds := [] } : QSt)) (by decide) (qOf_call (g := 63) (args := [.agg ⟨[.int .i64 z68.1, .int .i64 z68.2.1]⟩]) (by kernel_rfl) lookC_hit) (by kernel_rfl) ?_
    refine QI.run (s1 := ({ act := (st 73 [(2, .pointer (some ⟨0, 0, none⟩)), (3, .pointer (some ⟨1, 0, none⟩)), (47, .pointer (some ⟨1, 0, none⟩)), (48, .pointer (some ⟨1, 0, none⟩)), (49, .agg ⟨[.int .i64 z68.1, .int .i64 z68.2.1]⟩), (50, .int .i64 r63), (51, .pointer (some ⟨1, 0, none⟩)), (52, .pointer (some ⟨1, 2, none⟩)), (53, .agg ⟨[.int .i64 r59.1, .int .i64 r59.2]⟩)]), heap := [.cells 108 [.int .i64 0, .int .i64 0, .int .i64 0, .int .i64 0, .int .i64 0, .int .i64 0, .int .i64 0, .int .i64 0], .cells 108 [.int .i64 z68.1, .int .i64 z68.2.1, .int .i64 r59.1, .int .i64 r59.2, .int .i64 z68.2.2.2.2.1, .int .i64 z68.2.2.2.2.2.1, .int .i64 r61.1, .int .i64 r61.2]], own := [], upds := [] } : QSt)) 3 (by kernel_rfl) (by kernel_rfl) ?_
    exact QI.done (by kernel_rfl)
  · refine SI.op (q := { val := .int .i64 r65, new := [] }) (a2 := (st 73 [(2, .pointer (some ⟨0, 0, none⟩)), (3, .pointer (some ⟨1, 0, none⟩)), (47, .pointer (some ⟨1, 0, none⟩)), (48, .pointer (some ⟨1, 0, none⟩)), (49, .agg ⟨[.int .i64 z68.1, .int .i64 z68.2.1]⟩), (50, .int .i64 r63), (51, .pointer (some ⟨1, 0, none⟩)), (52, .pointer (some ⟨1, 2, none⟩)), (53, .agg ⟨[.int .i64 r59.1, .int .i64 r59.2]⟩), (54, .int .i64 r65)])) (h2 := [.cells 108 [.int .i64 0, .int .i64 0, .int .i64 0, .int .i64 0, .int .i64 0, .int .i64 0, .int .i64 0, .int .i64 0], .cells 108 [.int .i64 z68.1, .int .i64 z68.2.1, .int .i64 r59.1, .int .i64 r59.2, .int .i64 z68.2.2.2.2.1, .int .i64 z68.2.2.2.2.2.1, .int .i64 r61.1, .int .i64 r61.2]]) (by kernel_rfl) (qOf_call (g := 63) (args := [.agg ⟨[.int .i64 r59.1, .int .i64 r59.2]⟩]) (by kernel_rfl) (lookC_skip (by intro _ ha _; have hq := h64; have hi := h66; clear hF; first | (exfalso; simp at ha; done) | ((try simp at ha); have hr := Option.some.inj (hq.symm.trans (Eq.trans (by first | rfl | (congr 1 <;> first | rfl | omega | simp_all)) hi)); subst hr; rfl)) lookC_hit)) (by kernel_rfl) (by kernel_rfl) ?_
    refine SI.run (a2 := (st 73 [(2, .pointer (some ⟨0, 0, none⟩)), (3, .pointer (some ⟨1, 0, none⟩)), (47, .pointer (some ⟨1, 0, none⟩)), (48, .pointer (some ⟨1, 0, none⟩)), (49, .agg ⟨[.int .i64 z68.1, .int .i64 z68.2.1]⟩), (50, .int .i64 r63), (51, .pointer (some ⟨1, 0, none⟩)), (52, .pointer (some ⟨1, 2, none⟩)), (53, .agg ⟨[.int .i64 r59.1, .int .i64 r59.2]⟩), (54, .int .i64 r65), (55, .bool (decide (r63 ≤ r65)))])) (h2 := [.cells 108 [.int .i64 0, .int .i64 0, .int .i64 0, .int .i64 0, .int .i64 0, .int .i64 0, .int .i64 0, .int .i64 0], .cells 108 [.int .i64 z68.1, .int .i64 z68.2.1, .int .i64 r59.1, .int .i64 r59.2, .int .i64 z68.2.2.2.2.1, .int .i64 z68.2.2.2.2.2.1, .int .i64 r61.1, .int .i64 r61.2]]) 1 (by kernel_rfl) ?_
    exact SI.done (by kernel_rfl)
  refine TS.cond' (o := (.tmp 55)) (x := c61.s2.s2.bd.bd.bd.s2.s2.s1.s2.th) (y := c61.s2.s2.bd.bd.bd.s2.s2.s1.s2.el) (b := decide (r63 ≤ r65)) (by kernel_rfl) (by kernel_rfl) (fun hc67 => ?_) (fun hc67 => ?_)
  · replace hF := of_pos hF hc67
    refine TS.seq' (x := c61.s2.s2.bd.bd.bd.s2.s2.s1.s2.th.s1) (y := c61.s2.s2.bd.bd.bd.s2.s2.s1.s2.th.s2) (by kernel_rfl) ?_
    refine TS.region' (id := 5) (b := false) (ops := c61.s2.s2.bd.bd.bd.s2.s2.s1.s2.th.s1.rops) (by kernel_rfl) rfl ?_
    refine TI.run 2 [2] [0] (a2 := (st 73 [(2, .pointer (some ⟨0, 0, none⟩))])) (h2 := [.cells 108 [.int .i64 z68.1, .int .i64 z68.2.1, .int .i64 r59.1, .int .i64 r59.2, .int .i64 z68.2.2.2.2.1, .int .i64 z68.2.2.2.2.2.1, .int .i64 r61.1, .int .i64 r61.2], .dead]) (by kernel_rfl) ?_
    refine TI.done (by kernel_rfl) ?_
    refine NX.sq ?_
    refine TS.ret' (by kernel_rfl) ?_
    refine NX.sqR ?_
    refine NX.bkR ?_
    have hF := Option.some.inj hF
    subst hF
    exact Rd.out (e := .ret) (by intro h; cases h) (And.intro rfl (Wk.anew (base := 0) (L := 0) (f := [0]) (by decide) (by decide) (Nat.le_of_ble_eq_true rfl) rfl (.cons (At.blk (by kernel_rfl) (RnB.lit (.cons (.flat (by kernel_rfl)) (.cons (.flat (by kernel_rfl)) (.cons (.flat (by kernel_rfl)) (.cons (.flat (by kernel_rfl)) (.cons (.flat (by kernel_rfl)) (.cons (.flat (by kernel_rfl)) (.cons (.flat (by kernel_rfl)) (.cons (.flat (by kernel_rfl)) .nil)))))))))) (.nil _)) (LRn.stx [2] [.pointer (some ⟨0, 0, none⟩)] [.pointer (some ⟨0, 0, none⟩)] (.cons (Rn.ptr _ _ _ (Nat.le_of_ble_eq_true rfl) rfl) .nil) (by kernel_rfl) (by kernel_rfl) rfl) rfl rfl))
  · replace hF := of_neg hF hc67
    refine TS.skip' (by kernel_rfl) ?_
    refine NX.sq ?_
    refine TS.region' (id := 6) (b := false) (ops := c61.s2.s2.bd.bd.bd.s2.s2.s2.rops) (by kernel_rfl) rfl ?_
    refine TI.run 20 [2, 3] [0, 1] (a2 := (st 73 [(2, .pointer (some ⟨0, 0, none⟩)), (3, .pointer (some ⟨1, 0, none⟩))])) (h2 := [.cells 108 [.int .i64 0, .int .i64 0, .int .i64 0, .int .i64 0, .int .i64 0, .int .i64 0, .int .i64 0, .int .i64 0], .cells 108 [.int .i64 r59.1, .int .i64 r59.2, .int .i64 z68.1, .int .i64 z68.2.1, .int .i64 r61.1, .int .i64 r61.2, .int .i64 z68.2.2.2.2.1, .int .i64 z68.2.2.2.2.2.1]]) (by kernel_rfl) ?_
    refine TI.done (by kernel_rfl) ?_
    refine NX.bk ?_
    exact Rd.again (a2 := (st 73 [(2, .pointer (some ⟨0, 0, none⟩)), (3, .pointer (some ⟨1, 0, none⟩))])) (h2 := [.cells 108 [.int .i64 0, .int .i64 0, .int .i64 0, .int .i64 0, .int .i64 0, .int .i64 0, .int .i64 0, .int .i64 0], .cells 108 [.int .i64 r59.1, .int .i64 r59.2, .int .i64 z68.1, .int .i64 z68.2.1, .int .i64 r61.1, .int .i64 r61.2, .int .i64 z68.2.2.2.2.1, .int .i64 z68.2.2.2.2.2.1]]) (Wk.anew (base := 0) (L := 0) (f := [0, 1]) (by decide) (by decide) (Nat.le_of_ble_eq_true rfl) rfl (.cons (At.blk (by kernel_rfl) (RnB.lit (.cons (.flat (by kernel_rfl)) (.cons (.flat (by kernel_rfl)) (.cons (.flat (by kernel_rfl)) (.cons (.flat (by kernel_rfl)) (.cons (.flat (by kernel_rfl)) (.cons (.flat (by kernel_rfl)) (.cons (.flat (by kernel_rfl)) (.cons (.flat (by kernel_rfl)) .nil)))))))))) (.cons (At.blk (by kernel_rfl) (RnB.lit (.cons (.flat (by kernel_rfl)) (.cons (.flat (by kernel_rfl)) (.cons (.flat (by kernel_rfl)) (.cons (.flat (by kernel_rfl)) (.cons (.flat (by kernel_rfl)) (.cons (.flat (by kernel_rfl)) (.cons (.flat (by kernel_rfl)) (.cons (.flat (by kernel_rfl)) .nil)))))))))) (.nil _))) (LRn.stx [2, 3] [.pointer (some ⟨0, 0, none⟩), .pointer (some ⟨1, 0, none⟩)] [.pointer (some ⟨0, 0, none⟩), .pointer (some ⟨1, 0, none⟩)] (.cons (Rn.ptr _ _ _ (Nat.le_of_ble_eq_true rfl) rfl) (.cons (Rn.ptr _ _ _ (Nat.le_of_ble_eq_true rfl) rfl) .nil)) (by kernel_rfl) (by kernel_rfl) rfl) rfl rfl) (ih (r59.1, r59.2, z68.1, z68.2.1, r61.1, r61.2, z68.2.2.2.2.1, z68.2.2.2.2.2.1) _ hF)
theorem B61 (p0 : Int) (p1 : Int) (p2 : Int) (p3 : Int) (r : (((Int × Int) × (Int × Int)) × (Int × Int) × (Int × Int))) (hF : F61 p0 p1 p2 p3 = some r) : TS Try.prog 0 0 c61 (st 73 [(0, .agg ⟨[.int .i64 p0, .int .i64 p1, .int .i64 p2, .int .i64 p3]⟩)]) [] (NX Try.prog 0 0 [] (FinP Try.prog Try.f61 0 (V61 0 r) (N61 0 r))) := by
  unfold F61 at hF
  refine TS.seq' (x := c61.s1) (y := c61.s2) (by kernel_rfl) ?_
  refine TS.region' (id := 0) (b := false) (ops := c61.s1.rops) (by kernel_rfl) rfl ?_
  refine TI.run 2 [1, 2] [0, 1] (a2 := (st 73 [(1, .pointer (some ⟨0, 0, none⟩)), (2, .pointer (some ⟨1, 0, none⟩))])) (h2 := [.cells 25 [.int .i64 p0, .int .i64 p1, .int .i64 p2, .int .i64 p3], .cells 108 [.int .i64 0, .int .i64 0, .int .i64 0, .int .i64 0, .int .i64 0, .int .i64 0, .int .i64 0, .int .i64 0]]) (by kernel_rfl) ?_
  refine TI.done (by kernel_rfl) ?_
  refine NX.sq ?_
  refine TS.seq' (x := c61.s2.s1) (y := c61.s2.s2) (by kernel_rfl) ?_
  refine TS.region' (id := 1) (b := false) (ops := c61.s2.s1.rops) (by kernel_rfl) rfl ?_
  refine TI.run 6 [2, 3] [1, 2] (a2 := (st 73 [(2, .pointer (some ⟨1, 0, none⟩)), (3, .pointer (some ⟨2, 0, none⟩))])) (h2 := [.dead, .cells 108 [.int .i64 0, .int .i64 0, .int .i64 0, .int .i64 0, .int .i64 0, .int .i64 0, .int .i64 0, .int .i64 0], .cells 108 [.int .i64 p0, .int .i64 p1, .int .i64 p2, .int .i64 p3, .int .i64 1, .int .i64 0, .int .i64 0, .int .i64 1]]) (by kernel_rfl) ?_
  refine TI.done (by kernel_rfl) ?_
  refine NX.sq ?_
  refine TS.block' (id := 0) (x := c61.s2.s2.bd) (by kernel_rfl) ?_
  have hX := of_do hF
  clear hF
  obtain ⟨r69, h70, hF⟩ := hX
  refine TS.loop' (x := c61.s2.s2.bd.bd) (by kernel_rfl) (TL.weak (a2 := (st 73 [(2, .pointer (some ⟨0, 0, none⟩)), (3, .pointer (some ⟨1, 0, none⟩))])) (h2 := [.cells 108 [.int .i64 0, .int .i64 0, .int .i64 0, .int .i64 0, .int .i64 0, .int .i64 0, .int .i64 0, .int .i64 0], .cells 108 [.int .i64 p0, .int .i64 p1, .int .i64 p2, .int .i64 p3, .int .i64 1, .int .i64 0, .int .i64 0, .int .i64 1]]) (Wk.anew (base := 0) (L := 0) (f := [1, 2]) (by decide) (by decide) (Nat.le_of_ble_eq_true rfl) rfl (.cons (At.blk (by kernel_rfl) (RnB.lit (.cons (.flat (by kernel_rfl)) (.cons (.flat (by kernel_rfl)) (.cons (.flat (by kernel_rfl)) (.cons (.flat (by kernel_rfl)) (.cons (.flat (by kernel_rfl)) (.cons (.flat (by kernel_rfl)) (.cons (.flat (by kernel_rfl)) (.cons (.flat (by kernel_rfl)) .nil)))))))))) (.cons (At.blk (by kernel_rfl) (RnB.lit (.cons (.flat (by kernel_rfl)) (.cons (.flat (by kernel_rfl)) (.cons (.flat (by kernel_rfl)) (.cons (.flat (by kernel_rfl)) (.cons (.flat (by kernel_rfl)) (.cons (.flat (by kernel_rfl)) (.cons (.flat (by kernel_rfl)) (.cons (.flat (by kernel_rfl)) .nil)))))))))) (.nil _))) (LRn.stx [2, 3] [.pointer (some ⟨0, 0, none⟩), .pointer (some ⟨1, 0, none⟩)] [.pointer (some ⟨1, 0, none⟩), .pointer (some ⟨2, 0, none⟩)] (.cons (Rn.ptr _ _ _ (Nat.le_of_ble_eq_true rfl) rfl) (.cons (Rn.ptr _ _ _ (Nat.le_of_ble_eq_true rfl) rfl) .nil)) (by kernel_rfl) (by kernel_rfl) rfl) rfl rfl) (TL.post (L61l0  p0 p1 p2 p3 1 0 0 1 r69 h70) ?_))
  rintro e a1 h1 hp
  obtain ⟨rfl, hw⟩ := hp
  refine ⟨(st 73 [(2, .pointer (some ⟨0, 0, none⟩))]), [.cells 108 [.int .i64 r69.1, .int .i64 r69.2.1, .int .i64 r69.2.2.1, .int .i64 r69.2.2.2.1, .int .i64 r69.2.2.2.2.1, .int .i64 r69.2.2.2.2.2.1, .int .i64 r69.2.2.2.2.2.2.1, .int .i64 r69.2.2.2.2.2.2.2]], ?_, hw⟩
  refine NX.bkR ?_
  have hF := Option.some.inj hF
  subst hF
  exact ⟨.inr rfl, rfl, .agg ⟨[.int .i64 r69.1, .int .i64 r69.2.1, .int .i64 r69.2.2.1, .int .i64 r69.2.2.2.1, .int .i64 r69.2.2.2.2.1, .int .i64 r69.2.2.2.2.2.1, .int .i64 r69.2.2.2.2.2.2.1, .int .i64 r69.2.2.2.2.2.2.2]⟩, by kernel_rfl, WkV.flat0 (by kernel_rfl) (Nat.le_of_ble_eq_true rfl)⟩
theorem C61 (p0 : Int) (p1 : Int) (p2 : Int) (p3 : Int) (r : (((Int × Int) × (Int × Int)) × (Int × Int) × (Int × Int))) (hF : F61 p0 p1 p2 p3 = some r) : PureSim Try.prog 61 [.agg ⟨[.int .i64 p0, .int .i64 p1, .int .i64 p2, .int .i64 p3]⟩] [] (V61 0 r) (N61 0 r) :=
  PureSim.of_Fin Try.func61 (c := c61) (by kernel_rfl) (by kernel_rfl) 0 rfl [0] [] (by kernel_rfl) (B61 p0 p1 p2 p3 r hF)

-- agonic/magnet.Within$1
noncomputable def c71 : Code := Try.f71.code
def F71 (p0 : Int) (p1 : Int) (p2 : Int) (p3 : Int) (p4 : Int) (p5 : Int) (p6 : Int) (p7 : Int) (p8 : Int) (p9 : Int) (p10 : Int) : Option Bool :=
  F63 p3 p4 >>= fun r1 =>
  some (decide ((w64 ((w64 ((w64 (p0 * p0)) * p1)) * p1)) > (w64 (p2 * r1))))
def V71 (b : Nat) (r : Bool) : Value := .bool r
def N71 (b : Nat) (r : Bool) : List Blk := []
theorem B71 (p0 : Int) (p1 : Int) (p2 : Int) (p3 : Int) (p4 : Int) (p5 : Int) (p6 : Int) (p7 : Int) (p8 : Int) (p9 : Int) (p10 : Int) (r : Bool) (hF : F71 p0 p1 p2 p3 p4 p5 p6 p7 p8 p9 p10 = some r) : TS Try.prog 3 3 c71 (st 20 [(0, .int .i64 p0), (1, .pointer (some ⟨0, 0, none⟩)), (2, .pointer (some ⟨1, 0, none⟩)), (3, .pointer (some ⟨2, 0, none⟩))]) [.cells 3 [.int .i64 p1], .cells 3 [.int .i64 p2], .cells 108 [.int .i64 p3, .int .i64 p4, .int .i64 p5, .int .i64 p6, .int .i64 p7, .int .i64 p8, .int .i64 p9, .int .i64 p10]] (NX Try.prog 3 3 [] (FinP Try.prog Try.f71 3 (V71 3 r) (N71 3 r))) := by
  unfold F71 at hF
  refine TS.seq' (x := c71.s1) (y := c71.s2) (by kernel_rfl) ?_
  refine TS.region' (id := 0) (b := false) (ops := c71.s1.rops) (by kernel_rfl) rfl ?_
  refine TI.run 1 [0, 1, 2, 3] [0, 1, 2] (a2 := (st 20 [(0, .int .i64 p0), (1, .pointer (some ⟨0, 0, none⟩)), (2, .pointer (some ⟨1, 0, none⟩)), (3, .pointer (some ⟨2, 0, none⟩))])) (h2 := [.cells 3 [.int .i64 p1], .cells 3 [.int .i64 p2], .cells 108 [.int .i64 p3, .int .i64 p4, .int .i64 p5, .int .i64 p6, .int .i64 p7, .int .i64 p8, .int .i64 p9, .int .i64 p10]]) (by kernel_rfl) ?_
  refine TI.done (by kernel_rfl) ?_
  refine NX.sq ?_
  refine TS.seq' (x := c71.s2.s1) (y := c71.s2.s2) (by kernel_rfl) ?_
  have hX := of_do hF
  clear hF
  obtain ⟨r1, h2, hF⟩ := hX
  have hT : ∀ e ∈ ([⟨63, [.agg ⟨[.int .i64 p3, .int .i64 p4]⟩], [.cells 3 [.int .i64 p1], .cells 3 [.int .i64 p2], .cells 108 [.int .i64 p3, .int .i64 p4, .int .i64 p5, .int .i64 p6, .int .i64 p7, .int .i64 p8, .int .i64 p9, .int .i64 p10]], .int .i64 r1, []⟩] : List Entry), PureSim Try.prog e.g e.args e.h e.v e.new := by
    intro e he
    simp only [List.mem_cons, List.not_mem_nil, or_false] at he
    rcases he with rfl
    · exact (PureSim.any (C63 p3 p4 r1 h2) (flatL (by kernel_rfl)) (by kernel_rfl) [.cells 3 [.int .i64 p1], .cells 3 [.int .i64 p2], .cells 108 [.int .i64 p3, .int .i64 p4, .int .i64 p5, .int .i64 p6, .int .i64 p7, .int .i64 p8, .int .i64 p9, .int .i64 p10]])
  refine TS.draw' (id := 1) (b := true) (ops := c71.s2.s1.rops) (fin := ({ act := (st 20 [(0, .int .i64 p0), (1, .pointer (some ⟨0, 0, none⟩)), (2, .pointer (some ⟨1, 0, none⟩)), (3, .pointer (some ⟨2, 0, none⟩)), (6, .int .i64 p0), (7, .int .i64 p0), (8, .int .i64 (w64 (p0 * p0))), (9, .int .i64 p1), (10, .int .i64 (w64 ((w64 (p0 * p0)) * p1))), (11, .int .i64 p1), (12, .int .i64 (w64 ((w64 ((w64 (p0 * p0)) * p1)) * p1))), (13, .int .i64 p2), (14, .pointer (some ⟨2, 0, none⟩)), (15, .pointer (some ⟨2, 0, none⟩)), (16, .agg ⟨[.int .i64 p3, .int .i64 p4]⟩), (17, .int .i64 r1), (18, .int .i64 (w64 (p2 * r1)))]), heap := [.cells 3 [.int .i64 p1], .cells 3 [.int .i64 p2], .cells 108 [.int .i64 p3, .int .i64 p4, .int .i64 p5, .int .i64 p6, .int .i64 p7, .int .i64 p8, .int .i64 p9, .int .i64 p10]], own := [], upds := [] } : QSt)) (fin2 := ({ act := (st 20 [(0, .int .i64 p0), (1, .pointer (some ⟨0, 0, none⟩)), (2, .pointer (some ⟨1, 0, none⟩)), (3, .pointer (some ⟨2, 0, none⟩)), (6, .int .i64 p0), (7, .int .i64 p0), (8, .int .i64 (w64 (p0 * p0))), (9, .int .i64 p1), (10, .int .i64 (w64 ((w64 (p0 * p0)) * p1))), (11, .int .i64 p1), (12, .int .i64 (w64 ((w64 ((w64 (p0 * p0)) * p1)) * p1))), (13, .int .i64 p2), (14, .pointer (some ⟨2, 0, none⟩)), (15, .pointer (some ⟨2, 0, none⟩)), (16, .agg ⟨[.int .i64 p3, .int .i64 p4]⟩), (17, .int .i64 r1), (18, .int .i64 (w64 (p2 * r1)))]), heap := [.cells 3 [.int .i64 p1], .cells 3 [.int .i64 p2], .cells 108 [.int .i64 p3, .int .i64 p4, .int .i64 p5, .int .i64 p6, .int .i64 p7, .int .i64 p8, .int .i64 p9, .int .i64 p10]], own := [], upds := [] } : QSt)) (a1 := (st 20 [(0, .int .i64 p0), (1, .pointer (some ⟨0, 0, none⟩)), (2, .pointer (some ⟨1, 0, none⟩)), (3, .pointer (some ⟨2, 0, none⟩)), (5, .bool (decide ((w64 ((w64 ((w64 (p0 * p0)) * p1)) * p1)) > (w64 (p2 * r1))))), (6, .int .i64 p0), (7, .int .i64 p0), (8, .int .i64 (w64 (p0 * p0))), (9, .int .i64 p1), (10, .int .i64 (w64 ((w64 (p0 * p0)) * p1))), (11, .int .i64 p1), (12, .int .i64 (w64 ((w64 ((w64 (p0 * p0)) * p1)) * p1))), (13, .int .i64 p2), (14, .pointer (some ⟨2, 0, none⟩)), (15, .pointer (some ⟨2, 0, none⟩)), (16, .agg ⟨[.int .i64 p3, .int .i64 p4]⟩), (17, .int .i64 r1), (18, .int .i64 (w64 (p2 * r1))), (19, .bool (decide ((w64 ((w64 ((w64 (p0 * p0)) * p1)) * p1)) > (w64 (p2 * r1)))))])) (h1 := [.cells 3 [.int .i64 p1], .cells 3 [.int .i64 p2], .cells 108 [.int .i64 p3, .int .i64 p4, .int .i64 p5, .int .i64 p6, .int .i64 p7, .int .i64 p8, .int .i64 p9, .int .i64 p10]]) (a2 := (st 20 [(5, .bool (decide ((w64 ((w64 ((w64 (p0 * p0)) * p1)) * p1)) > (w64 (p2 * r1)))))])) (h2 := [.cells 3 [.int .i64 p1], .cells 3 [.int .i64 p2], .cells 108 [.int .i64 p3, .int .i64 p4, .int .i64 p5, .int .i64 p6, .int .i64 p7, .int .i64 p8, .int .i64 p9, .int .i64 p10]]) [⟨63, [.agg ⟨[.int .i64 p3, .int .i64 p4]⟩], [.cells 3 [.int .i64 p1], .cells 3 [.int .i64 p2], .cells 108 [.int .i64 p3, .int .i64 p4, .int .i64 p5, .int .i64 p6, .int .i64 p7, .int .i64 p8, .int .i64 p9, .int .i64 p10]], .int .i64 r1, []⟩] hT mixed (by kernel_rfl) rfl 13 (by kernel_rfl) [] ?_ rfl (.inl ⟨rfl, rfl⟩) ?_ [5] [0, 1, 2] (by kernel_rfl) ?_
  · refine QI.run (s1 := ({ act := (st 20 [(0, .int .i64 p0), (1, .pointer (some ⟨0, 0, none⟩)), (2, .pointer (some ⟨1, 0, none⟩)), (3, .pointer (some ⟨2, 0, none⟩)), (6, .int .i64 p0), (7, .int .i64 p0), (8, .int .i64 (w64 (p0 * p0))), (9, .int .i64 p1), (10, .int .i64 (w64 ((w64 (p0 * p0)) * p1))), (11, .int .i64 p1), (12, .int .i64 (w64 ((w64 ((w64 (p0 * p0)) * p1)) * p1))), (13, .int .i64 p2), (14, .pointer (some ⟨2, 0, none⟩)), (15, .pointer (some ⟨2, 0, none⟩)), (16, .agg ⟨[.int .i64 p3, .int .i64 p4]⟩)]), heap := [.cells 3 [.int .i64 p1], .cells 3 [.int .i64 p2], .cells 108 [.int .i64 p3, .int .i64 p4, .int .i64 p5, .int .i64 p6, .int .i64 p7, .int .i64 p8, .int .i64 p9, .int .i64 p10]], own := [], upds := [] } : QSt)) 11 (by kernel_rfl) (by kernel_rfl) ?_
    refine QI.op (q := { val := .int .i64 r1, new := [] }) (s1 := ({ act := (st 20 [(0, .int .i64 p0), (1, .pointer (some ⟨0, 0, none⟩)), (2, .pointer (some ⟨1, 0, none⟩)), (3, .pointer (some ⟨2, 0, none⟩)), (6, .int .i64 p0), (7, .int .i64 p0), (8, .int .i64 (w64 (p0 * p0))), (9, .int .i64 p1), (10, .int .i64 (w64 ((w64 (p0 * p0)) * p1))), (11, .int .i64 p1), (12, .int .i64 (w64 ((w64 ((w64 (p0 * p0)) * p1)) * p1))), (13, .int .i64 p2), (14, .pointer (some ⟨2, 0, none⟩)), (15, .pointer (some ⟨2, 0, none⟩)), (16, .agg ⟨[.int .i64 p3, .int .i64 p4]⟩), (17, .int .i64 r1)]), heap := [.cells 3 [.int .i64 p1], .cells 3 [.int .i64 p2], .cells 108 [.int .i64 p3, .int .i64 p4, .int .i64 p5, .int .i64 p6, .int .i64 p7, .int .i64 p8, .int .i64 p9, .int .i64 p10]], own := [], upds := [] } : QSt)) (by decide) (qOf_call (g := 63) (args := [.agg ⟨[.int .i64 p3, .int .i64 p4]⟩]) (by kernel_rfl) lookC_hit) (by kernel_rfl) ?_
    refine QI.run (s1 := ({ act := (st 20 [(0, .int .i64 p0), (1, .pointer (some ⟨0, 0, none⟩)), (2, .pointer (some ⟨1, 0, none⟩)), (3, .pointer (some ⟨2, 0, none⟩)), (6, .int .i64 p0), (7, .int .i64 p0), (8, .int .i64 (w64 (p0 * p0))), (9, .int .i64 p1), (10, .int .i64 (w64 ((w64 (p0 * p0)) * p1))), (11, .int .i64 p1), (12, .int .i64 (w64 ((w64 ((w64 (p0 * p0)) * p1)) * p1))), (13, .int .i64 p2), (14, .pointer (some ⟨2, 0, none⟩)), (15, .pointer (some ⟨2, 0, none⟩)), (16, .agg ⟨[.int .i64 p3, .int .i64 p4]⟩), (17, .int .i64 r1), (18, .int .i64 (w64 (p2 * r1)))]), heap := [.cells 3 [.int .i64 p1], .cells 3 [.int .i64 p2], .cells 108 [.int .i64 p3, .int .i64 p4, .int .i64 p5, .int .i64 p6, .int .i64 p7, .int .i64 p8, .int .i64 p9, .int .i64 p10]], own := [], upds := [] } : QSt)) 1 (by kernel_rfl) (by kernel_rfl) ?_
    exact QI.done (by kernel_rfl)
  · refine SI.run (a2 := (st 20 [(0, .int .i64 p0), (1, .pointer (some ⟨0, 0, none⟩)), (2, .pointer (some ⟨1, 0, none⟩)), (3, .pointer (some ⟨2, 0, none⟩)), (5, .bool (decide ((w64 ((w64 ((w64 (p0 * p0)) * p1)) * p1)) > (w64 (p2 * r1))))), (6, .int .i64 p0), (7, .int .i64 p0), (8, .int .i64 (w64 (p0 * p0))), (9, .int .i64 p1), (10, .int .i64 (w64 ((w64 (p0 * p0)) * p1))), (11, .int .i64 p1), (12, .int .i64 (w64 ((w64 ((w64 (p0 * p0)) * p1)) * p1))), (13, .int .i64 p2), (14, .pointer (some ⟨2, 0, none⟩)), (15, .pointer (some ⟨2, 0, none⟩)), (16, .agg ⟨[.int .i64 p3, .int .i64 p4]⟩), (17, .int .i64 r1), (18, .int .i64 (w64 (p2 * r1))), (19, .bool (decide ((w64 ((w64 ((w64 (p0 * p0)) * p1)) * p1)) > (w64 (p2 * r1)))))])) (h2 := [.cells 3 [.int .i64 p1], .cells 3 [.int .i64 p2], .cells 108 [.int .i64 p3, .int .i64 p4, .int .i64 p5, .int .i64 p6, .int .i64 p7, .int .i64 p8, .int .i64 p9, .int .i64 p10]]) 2 (by kernel_rfl) ?_
    exact SI.done (by kernel_rfl)
  refine TS.ret' (by kernel_rfl) ?_
  have hF := Option.some.inj hF
  subst hF
  exact ⟨.inr rfl, rfl, .bool (decide ((w64 ((w64 ((w64 (p0 * p0)) * p1)) * p1)) > (w64 (p2 * r1)))), by kernel_rfl, WkV.flat0 (by kernel_rfl) (Nat.le_of_ble_eq_true rfl)⟩
theorem C71 (p0 : Int) (p1 : Int) (p2 : Int) (p3 : Int) (p4 : Int) (p5 : Int) (p6 : Int) (p7 : Int) (p8 : Int) (p9 : Int) (p10 : Int) (r : Bool) (hF : F71 p0 p1 p2 p3 p4 p5 p6 p7 p8 p9 p10 = some r) : PureSim Try.prog 71 [.int .i64 p0, .pointer (some ⟨0, 0, none⟩), .pointer (some ⟨1, 0, none⟩), .pointer (some ⟨2, 0, none⟩)] [.cells 3 [.int .i64 p1], .cells 3 [.int .i64 p2], .cells 108 [.int .i64 p3, .int .i64 p4, .int .i64 p5, .int .i64 p6, .int .i64 p7, .int .i64 p8, .int .i64 p9, .int .i64 p10]] (V71 3 r) (N71 3 r) :=
  PureSim.of_Fin Try.func71 (c := c71) (by kernel_rfl) (by kernel_rfl) 3 rfl [0, 1, 2, 3] [0, 1, 2] (by kernel_rfl) (B71 p0 p1 p2 p3 p4 p5 p6 p7 p8 p9 p10 r hF)

-- agonic/magnet.least
noncomputable def c70 : Code := Try.f70.code
def F70l0 (p0 : Int) (p1 : Int) (p2 : Int) (p3 : Int) (p4 : Int) (p5 : Int) (p6 : Int) (p7 : Int) (p8 : Int) (p9 : Int) (v5 : Int) : Option Int :=
    F71 v5 p0 p1 p2 p3 p4 p5 p6 p7 p8 p9 >>= fun r11 =>
    (
      if r11 then
        some (false)
      else
        some (true)
    : Option Bool) >>= fun m13 =>
    if m13 then
      F70l0 p0 p1 p2 p3 p4 p5 p6 p7 p8 p9 (w64 (v5 + 1))
    else
      some v5
  partial_fixpoint
def F70 (p0 : Int) (p1 : Int) (p2 : Int) (p3 : Int) (p4 : Int) (p5 : Int) (p6 : Int) (p7 : Int) (p8 : Int) (p9 : Int) : Option Int :=
  F70l0 p0 p1 p2 p3 p4 p5 p6 p7 p8 p9 0 >>= fun r15 =>
  some r15
def V70 (b : Nat) (r : Int) : Value := .int .i64 r
def N70 (b : Nat) (r : Int) : List Blk := []
def P70l0 (p0 : Int) (p1 : Int) (p2 : Int) (p3 : Int) (p4 : Int) (p5 : Int) (p6 : Int) (p7 : Int) (p8 : Int) (p9 : Int) (r : Int) : Post := fun e a h => e = .exit 0 ∧ Wk Try.prog 3 3 a h (st 11 [(3, .int .i64 r)]) [.cells 3 [.int .i64 p0], .cells 3 [.int .i64 p1], .cells 108 [.int .i64 p2, .int .i64 p3, .int .i64 p4, .int .i64 p5, .int .i64 p6, .int .i64 p7, .int .i64 p8, .int .i64 p9]]
theorem L70l0 (p0 : Int) (p1 : Int) (p2 : Int) (p3 : Int) (p4 : Int) (p5 : Int) (p6 : Int) (p7 : Int) (p8 : Int) (p9 : Int) (v5 : Int) (r : Int) (hF : F70l0 p0 p1 p2 p3 p4 p5 p6 p7 p8 p9 v5 = some r) : TL Try.prog 3 3 c70.s2.s2.s1.bd.bd (st 11 [(0, .func (.func 71) ⟨[]⟩ ⟨[.pointer (some ⟨0, 0, none⟩), .pointer (some ⟨1, 0, none⟩), .pointer (some ⟨2, 0, none⟩)]⟩), (3, .int .i64 v5)]) [.cells 3 [.int .i64 p0], .cells 3 [.int .i64 p1], .cells 108 [.int .i64 p2, .int .i64 p3, .int .i64 p4, .int .i64 p5, .int .i64 p6, .int .i64 p7, .int .i64 p8, .int .i64 p9]] (P70l0 p0 p1 p2 p3 p4 p5 p6 p7 p8 p9 r) := by
  refine F70l0.partial_correctness p0 p1 p2 p3 p4 p5 p6 p7 p8 p9 (motive := fun v5 r => TL Try.prog 3 3 c70.s2.s2.s1.bd.bd (st 11 [(0, .func (.func 71) ⟨[]⟩ ⟨[.pointer (some ⟨0, 0, none⟩), .pointer (some ⟨1, 0, none⟩), .pointer (some ⟨2, 0, none⟩)]⟩), (3, .int .i64 v5)]) [.cells 3 [.int .i64 p0], .cells 3 [.int .i64 p1], .cells 108 [.int .i64 p2, .int .i64 p3, .int .i64 p4, .int .i64 p5, .int .i64 p6, .int .i64 p7, .int .i64 p8, .int .i64 p9]] (P70l0 p0 p1 p2 p3 p4 p5 p6 p7 p8 p9 r)) ?_ v5 r hF
  clear hF r v5
  intro again ih v5 r hF
  refine TL.round ?_
  refine TS.seq' (x := c70.s2.s2.s1.bd.bd.s1) (y := c70.s2.s2.s1.bd.bd.s2) (by kernel_rfl) ?_
  refine TS.seq' (x := c70.s2.s2.s1.bd.bd.s1.s1) (y := c70.s2.s2.s1.bd.bd.s1.s2) (by kernel_rfl) ?_
  have hX := of_do hF
  clear hF
  obtain ⟨r11, h12, hF⟩ := hX
  have hX := of_do hF
  clear hF
  obtain ⟨m13, hm14, hF⟩ := hX
  have hK : NX Try.prog 3 3 [.sq c70.s2.s2.s1.bd.bd.s1.s2, .sq c70.s2.s2.s1.bd.bd.s2] (Rd Try.prog 3 3 c70.s2.s2.s1.bd.bd (P70l0 p0 p1 p2 p3 p4 p5 p6 p7 p8 p9 r)) .normal (st 11 [(0, .func (.func 71) ⟨[]⟩ ⟨[.pointer (some ⟨0, 0, none⟩), .pointer (some ⟨1, 0, none⟩), .pointer (some ⟨2, 0, none⟩)]⟩), (3, .int .i64 v5), (7, .bool m13)]) [.cells 3 [.int .i64 p0], .cells 3 [.int .i64 p1], .cells 108 [.int .i64 p2, .int .i64 p3, .int .i64 p4, .int .i64 p5, .int .i64 p6, .int .i64 p7, .int .i64 p8, .int .i64 p9]] := by
    refine NX.sq ?_
    cases m13 with
    | true =>
      replace hF := of_pos hF rfl
      refine TS.condT' (o := (.tmp 7)) (x := c70.s2.s2.s1.bd.bd.s1.s2.th) (y := c70.s2.s2.s1.bd.bd.s1.s2.el) (by kernel_rfl) (by kernel_rfl) ?_
      refine TS.skip' (by kernel_rfl) ?_
      refine NX.sq ?_
      refine TS.block' (id := 1) (x := c70.s2.s2.s1.bd.bd.s2.bd) (by kernel_rfl) ?_
      refine TS.region' (id := 3) (b := false) (ops := c70.s2.s2.s1.bd.bd.s2.bd.rops) (by kernel_rfl) rfl ?_
      refine TI.run 3 [0, 3] [0, 1, 2] (a2 := (st 11 [(0, .func (.func 71) ⟨[]⟩ ⟨[.pointer (some ⟨0, 0, none⟩), .pointer (some ⟨1, 0, none⟩), .pointer (some ⟨2, 0, none⟩)]⟩), (3, .int .i64 (w64 (v5 + 1)))])) (h2 := [.cells 3 [.int .i64 p0], .cells 3 [.int .i64 p1], .cells 108 [.int .i64 p2, .int .i64 p3, .int .i64 p4, .int .i64 p5, .int .i64 p6, .int .i64 p7, .int .i64 p8, .int .i64 p9]]) (by kernel_rfl) ?_
      refine TI.done (by kernel_rfl) ?_
      refine NX.bk ?_
      exact Rd.again (a2 := (st 11 [(0, .func (.func 71) ⟨[]⟩ ⟨[.pointer (some ⟨0, 0, none⟩), .pointer (some ⟨1, 0, none⟩), .pointer (some ⟨2, 0, none⟩)]⟩), (3, .int .i64 (w64 (v5 + 1)))])) (h2 := [.cells 3 [.int .i64 p0], .cells 3 [.int .i64 p1], .cells 108 [.int .i64 p2, .int .i64 p3, .int .i64 p4, .int .i64 p5, .int .i64 p6, .int .i64 p7, .int .i64 p8, .int .i64 p9]]) (Wk.anew (base := 3) (L := 3) (f := []) (by decide) (by decide) (Nat.le_of_ble_eq_true rfl) rfl (.cons (At.blk (by kernel_rfl) (RnB.lit (.cons (.flat (by kernel_rfl)) .nil))) (.cons (At.blk (by kernel_rfl) (RnB.lit (.cons (.flat (by kernel_rfl)) .nil))) (.cons (At.blk (by kernel_rfl) (RnB.lit (.cons (.flat (by kernel_rfl)) (.cons (.flat (by kernel_rfl)) (.cons (.flat (by kernel_rfl)) (.cons (.flat (by kernel_rfl)) (.cons (.flat (by kernel_rfl)) (.cons (.flat (by kernel_rfl)) (.cons (.flat (by kernel_rfl)) (.cons (.flat (by kernel_rfl)) .nil)))))))))) (.nil _)))) (LRn.stx [0, 3] [.func (.func 71) ⟨[]⟩ ⟨[.pointer (some ⟨0, 0, none⟩), .pointer (some ⟨1, 0, none⟩), .pointer (some ⟨2, 0, none⟩)]⟩, .int .i64 (w64 (v5 + 1))] [.func (.func 71) ⟨[]⟩ ⟨[.pointer (some ⟨0, 0, none⟩), .pointer (some ⟨1, 0, none⟩), .pointer (some ⟨2, 0, none⟩)]⟩, .int .i64 (w64 (v5 + 1))] (.cons (Rn.func' .nil (.cons (Rn.ptr _ _ _ (Nat.le_of_ble_eq_true rfl) rfl) (.cons (Rn.ptr _ _ _ (Nat.le_of_ble_eq_true rfl) rfl) (.cons (Rn.ptr _ _ _ (Nat.le_of_ble_eq_true rfl) rfl) .nil)))) (.cons (.flat (by kernel_rfl)) .nil)) (by kernel_rfl) (by kernel_rfl) rfl) rfl rfl) (ih (w64 (v5 + 1)) _ hF)
    | false =>
      replace hF := of_neg hF rfl
      refine TS.condF' (o := (.tmp 7)) (x := c70.s2.s2.s1.bd.bd.s1.s2.th) (y := c70.s2.s2.s1.bd.bd.s1.s2.el) (by kernel_rfl) (by kernel_rfl) ?_
      refine TS.exit' (id := 0) (by kernel_rfl) ?_
      refine NX.sqX ?_
      have hF := Option.some.inj hF
      subst hF
      exact Rd.out (e := .exit 0) (by intro h; cases h) (And.intro rfl (Wk.anew (base := 3) (L := 3) (f := []) (by decide) (by decide) (Nat.le_of_ble_eq_true rfl) rfl (.cons (At.blk (by kernel_rfl) (RnB.lit (.cons (.flat (by kernel_rfl)) .nil))) (.cons (At.blk (by kernel_rfl) (RnB.lit (.cons (.flat (by kernel_rfl)) .nil))) (.cons (At.blk (by kernel_rfl) (RnB.lit (.cons (.flat (by kernel_rfl)) (.cons (.flat (by kernel_rfl)) (.cons (.flat (by kernel_rfl)) (.cons (.flat (by kernel_rfl)) (.cons (.flat (by kernel_rfl)) (.cons (.flat (by kernel_rfl)) (.cons (.flat (by kernel_rfl)) (.cons (.flat (by kernel_rfl)) .nil)))))))))) (.nil _)))) (LRn.stx [3] [.int .i64 v5] [.int .i64 v5] (.cons (.flat (by kernel_rfl)) .nil) (by kernel_rfl) (by kernel_rfl) rfl) rfl rfl))
  cases r11 with
  | true =>
    replace hm14 := of_pos hm14 rfl
    have hm14 := Option.some.inj hm14
    subst hm14
    refine TS.region' (id := 2) (b := false) (ops := c70.s2.s2.s1.bd.bd.s1.s1.rops) (by kernel_rfl) rfl ?_
    refine TI.run 2 [0, 3, 4, 5] [0, 1, 2] (a2 := (st 11 [(0, .func (.func 71) ⟨[]⟩ ⟨[.pointer (some ⟨0, 0, none⟩), .pointer (some ⟨1, 0, none⟩), .pointer (some ⟨2, 0, none⟩)]⟩), (3, .int .i64 v5), (4, .func (.func 71) ⟨[]⟩ ⟨[.pointer (some ⟨0, 0, none⟩), .pointer (some ⟨1, 0, none⟩), .pointer (some ⟨2, 0, none⟩)]⟩), (5, .int .i64 v5)])) (h2 := [.cells 3 [.int .i64 p0], .cells 3 [.int .i64 p1], .cells 108 [.int .i64 p2, .int .i64 p3, .int .i64 p4, .int .i64 p5, .int .i64 p6, .int .i64 p7, .int .i64 p8, .int .i64 p9]]) (by kernel_rfl) ?_
    refine TI.callM (g := 71) (args := [.int .i64 v5, .pointer (some ⟨0, 0, none⟩), .pointer (some ⟨1, 0, none⟩), .pointer (some ⟨2, 0, none⟩)]) (v := .bool true) (new := []) (by kernel_rfl) (PureSim.ren (hc := [.cells 3 [.int .i64 p0], .cells 3 [.int .i64 p1], .cells 108 [.int .i64 p2, .int .i64 p3, .int .i64 p4, .int .i64 p5, .int .i64 p6, .int .i64 p7, .int .i64 p8, .int .i64 p9]]) (fun i => List.getD [(0, 0), (1, 0), (2, 0)] i (0, 0)) (C71 v5 p0 p1 p2 p3 p4 p5 p6 p7 p8 p9 true h12) (.cons (At.blk (by kernel_rfl) (RnB.lit (.cons (.flat (by kernel_rfl)) .nil))) (.cons (At.blk (by kernel_rfl) (RnB.lit (.cons (.flat (by kernel_rfl)) .nil))) (.cons (At.blk (by kernel_rfl) (RnB.lit (.cons (.flat (by kernel_rfl)) (.cons (.flat (by kernel_rfl)) (.cons (.flat (by kernel_rfl)) (.cons (.flat (by kernel_rfl)) (.cons (.flat (by kernel_rfl)) (.cons (.flat (by kernel_rfl)) (.cons (.flat (by kernel_rfl)) (.cons (.flat (by kernel_rfl)) .nil)))))))))) (.nil _)))) (.cons (.flat (by kernel_rfl)) (.cons (Rn.ptr _ _ _ (Nat.le_of_ble_eq_true rfl) rfl) (.cons (Rn.ptr _ _ _ (Nat.le_of_ble_eq_true rfl) rfl) (.cons (Rn.ptr _ _ _ (Nat.le_of_ble_eq_true rfl) rfl) .nil)))) (.flat (by kernel_rfl)) newflat_nil) [0, 3, 6] [0, 1, 2] (a2 := (st 11 [(0, .func (.func 71) ⟨[]⟩ ⟨[.pointer (some ⟨0, 0, none⟩), .pointer (some ⟨1, 0, none⟩), .pointer (some ⟨2, 0, none⟩)]⟩), (3, .int .i64 v5), (6, .bool true)])) (h2 := [.cells 3 [.int .i64 p0], .cells 3 [.int .i64 p1], .cells 108 [.int .i64 p2, .int .i64 p3, .int .i64 p4, .int .i64 p5, .int .i64 p6, .int .i64 p7, .int .i64 p8, .int .i64 p9]]) (by kernel_rfl) ?_
    refine TI.run 1 [0, 3, 7] [0, 1, 2] (a2 := (st 11 [(0, .func (.func 71) ⟨[]⟩ ⟨[.pointer (some ⟨0, 0, none⟩), .pointer (some ⟨1, 0, none⟩), .pointer (some ⟨2, 0, none⟩)]⟩), (3, .int .i64 v5), (7, .bool false)])) (h2 := [.cells 3 [.int .i64 p0], .cells 3 [.int .i64 p1], .cells 108 [.int .i64 p2, .int .i64 p3, .int .i64 p4, .int .i64 p5, .int .i64 p6, .int .i64 p7, .int .i64 p8, .int .i64 p9]]) (by kernel_rfl) ?_
    refine TI.done (by kernel_rfl) ?_
    exact hK
  | false =>
    replace hm14 := of_neg hm14 rfl
    have hm14 := Option.some.inj hm14
    subst hm14
    refine TS.region' (id := 2) (b := false) (ops := c70.s2.s2.s1.bd.bd.s1.s1.rops) (by kernel_rfl) rfl ?_
    refine TI.run 2 [0, 3, 4, 5] [0, 1, 2] (a2 := (st 11 [(0, .func (.func 71) ⟨[]⟩ ⟨[.pointer (some ⟨0, 0, none⟩), .pointer (some ⟨1, 0, none⟩), .pointer (some ⟨2, 0, none⟩)]⟩), (3, .int .i64 v5), (4, .func (.func 71) ⟨[]⟩ ⟨[.pointer (some ⟨0, 0, none⟩), .pointer (some ⟨1, 0, none⟩), .pointer (some ⟨2, 0, none⟩)]⟩), (5, .int .i64 v5)])) (h2 := [.cells 3 [.int .i64 p0], .cells 3 [.int .i64 p1], .cells 108 [.int .i64 p2, .int .i64 p3, .int .i64 p4, .int .i64 p5, .int .i64 p6, .int .i64 p7, .int .i64 p8, .int .i64 p9]]) (by kernel_rfl) ?_
    refine TI.callM (g := 71) (args := [.int .i64 v5, .pointer (some ⟨0, 0, none⟩), .pointer (some ⟨1, 0, none⟩), .pointer (some ⟨2, 0, none⟩)]) (v := .bool false) (new := []) (by kernel_rfl) (PureSim.ren (hc := [.cells 3 [.int .i64 p0], .cells 3 [.int .i64 p1], .cells 108 [.int .i64 p2, .int .i64 p3, .int .i64 p4, .int .i64 p5, .int .i64 p6, .int .i64 p7, .int .i64 p8, .int .i64 p9]]) (fun i => List.getD [(0, 0), (1, 0), (2, 0)] i (0, 0)) (C71 v5 p0 p1 p2 p3 p4 p5 p6 p7 p8 p9 false h12) (.cons (At.blk (by kernel_rfl) (RnB.lit (.cons (.flat (by kernel_rfl)) .nil))) (.cons (At.blk (by kernel_rfl) (RnB.lit (.cons (.flat (by kernel_rfl)) .nil))) (.cons (At.blk (by kernel_rfl) (RnB.lit (.cons (.flat (by kernel_rfl)) (.cons (.flat (by kernel_rfl)) (.cons (.flat (by kernel_rfl)) (.cons (.flat (by kernel_rfl)) (.cons (.flat (by kernel_rfl)) (.cons (.flat (by kernel_rfl)) (.cons (.flat (by kernel_rfl)) (.cons (.flat (by kernel_rfl)) .nil)))))))))) (.nil _)))) (.cons (.flat (by kernel_rfl)) (.cons (Rn.ptr _ _ _ (Nat.le_of_ble_eq_true rfl) rfl) (.cons (Rn.ptr _ _ _ (Nat.le_of_ble_eq_true rfl) rfl) (.cons (Rn.ptr _ _ _ (Nat.le_of_ble_eq_true rfl) rfl) .nil)))) (.flat (by kernel_rfl)) newflat_nil) [0, 3, 6] [0, 1, 2] (a2 := (st 11 [(0, .func (.func 71) ⟨[]⟩ ⟨[.pointer (some ⟨0, 0, none⟩), .pointer (some ⟨1, 0, none⟩), .pointer (some ⟨2, 0, none⟩)]⟩), (3, .int .i64 v5), (6, .bool false)])) (h2 := [.cells 3 [.int .i64 p0], .cells 3 [.int .i64 p1], .cells 108 [.int .i64 p2, .int .i64 p3, .int .i64 p4, .int .i64 p5, .int .i64 p6, .int .i64 p7, .int .i64 p8, .int .i64 p9]]) (by kernel_rfl) ?_
    refine TI.run 1 [0, 3, 7] [0, 1, 2] (a2 := (st 11 [(0, .func (.func 71) ⟨[]⟩ ⟨[.pointer (some ⟨0, 0, none⟩), .pointer (some ⟨1, 0, none⟩), .pointer (some ⟨2, 0, none⟩)]⟩), (3, .int .i64 v5), (7, .bool true)])) (h2 := [.cells 3 [.int .i64 p0], .cells 3 [.int .i64 p1], .cells 108 [.int .i64 p2, .int .i64 p3, .int .i64 p4, .int .i64 p5, .int .i64 p6, .int .i64 p7, .int .i64 p8, .int .i64 p9]]) (by kernel_rfl) ?_
    refine TI.done (by kernel_rfl) ?_
    exact hK
theorem B70 (p0 : Int) (p1 : Int) (p2 : Int) (p3 : Int) (p4 : Int) (p5 : Int) (p6 : Int) (p7 : Int) (p8 : Int) (p9 : Int) (r : Int) (hF : F70 p0 p1 p2 p3 p4 p5 p6 p7 p8 p9 = some r) : TS Try.prog 3 3 c70 (st 11 [(0, .func (.func 71) ⟨[]⟩ ⟨[.pointer (some ⟨0, 0, none⟩), .pointer (some ⟨1, 0, none⟩), .pointer (some ⟨2, 0, none⟩)]⟩)]) [.cells 3 [.int .i64 p0], .cells 3 [.int .i64 p1], .cells 108 [.int .i64 p2, .int .i64 p3, .int .i64 p4, .int .i64 p5, .int .i64 p6, .int .i64 p7, .int .i64 p8, .int .i64 p9]] (NX Try.prog 3 3 [] (FinP Try.prog Try.f70 3 (V70 3 r) (N70 3 r))) := by
  unfold F70 at hF
  refine TS.seq' (x := c70.s1) (y := c70.s2) (by kernel_rfl) ?_
  refine TS.region' (id := 0) (b := false) (ops := c70.s1.rops) (by kernel_rfl) rfl ?_
  refine TI.run 1 [0] [0, 1, 2] (a2 := (st 11 [(0, .func (.func 71) ⟨[]⟩ ⟨[.pointer (some ⟨0, 0, none⟩), .pointer (some ⟨1, 0, none⟩), .pointer (some ⟨2, 0, none⟩)]⟩)])) (h2 := [.cells 3 [.int .i64 p0], .cells 3 [.int .i64 p1], .cells 108 [.int .i64 p2, .int .i64 p3, .int .i64 p4, .int .i64 p5, .int .i64 p6, .int .i64 p7, .int .i64 p8, .int .i64 p9]]) (by kernel_rfl) ?_
  refine TI.done (by kernel_rfl) ?_
  refine NX.sq ?_
  refine TS.seq' (x := c70.s2.s1) (y := c70.s2.s2) (by kernel_rfl) ?_
  refine TS.region' (id := 1) (b := false) (ops := c70.s2.s1.rops) (by kernel_rfl) rfl ?_
  refine TI.run 1 [0, 3] [0, 1, 2] (a2 := (st 11 [(0, .func (.func 71) ⟨[]⟩ ⟨[.pointer (some ⟨0, 0, none⟩), .pointer (some ⟨1, 0, none⟩), .pointer (some ⟨2, 0, none⟩)]⟩), (3, .int .i64 0)])) (h2 := [.cells 3 [.int .i64 p0], .cells 3 [.int .i64 p1], .cells 108 [.int .i64 p2, .int .i64 p3, .int .i64 p4, .int .i64 p5, .int .i64 p6, .int .i64 p7, .int .i64 p8, .int .i64 p9]]) (by kernel_rfl) ?_
  refine TI.done (by kernel_rfl) ?_
  refine NX.sq ?_
  refine TS.seq' (x := c70.s2.s2.s1) (y := c70.s2.s2.s2) (by kernel_rfl) ?_
  refine TS.block' (id := 0) (x := c70.s2.s2.s1.bd) (by kernel_rfl) ?_
  have hX := of_do hF
  clear hF
  obtain ⟨r15, h16, hF⟩ := hX
  refine TS.loop' (x := c70.s2.s2.s1.bd.bd) (by kernel_rfl) (TL.weak (a2 := (st 11 [(0, .func (.func 71) ⟨[]⟩ ⟨[.pointer (some ⟨0, 0, none⟩), .pointer (some ⟨1, 0, none⟩), .pointer (some ⟨2, 0, none⟩)]⟩), (3, .int .i64 0)])) (h2 := [.cells 3 [.int .i64 p0], .cells 3 [.int .i64 p1], .cells 108 [.int .i64 p2, .int .i64 p3, .int .i64 p4, .int .i64 p5, .int .i64 p6, .int .i64 p7, .int .i64 p8, .int .i64 p9]]) (Wk.anew (base := 3) (L := 3) (f := []) (by decide) (by decide) (Nat.le_of_ble_eq_true rfl) rfl (.cons (At.blk (by kernel_rfl) (RnB.lit (.cons (.flat (by kernel_rfl)) .nil))) (.cons (At.blk (by kernel_rfl) (RnB.lit (.cons (.flat (by kernel_rfl)) .nil))) (.cons (At.blk (by kernel_rfl) (RnB.lit (.cons (.flat (by kernel_rfl)) (.cons (.flat (by kernel_rfl)) (.cons (.flat (by kernel_rfl)) (.cons (.flat (by kernel_rfl)) (.cons (.flat (by kernel_rfl)) (.cons (.flat (by kernel_rfl)) (.cons (.flat (by kernel_rfl)) (.cons (.flat (by kernel_rfl)) .nil)))))))))) (.nil _)))) (LRn.stx [0, 3] [.func (.func 71) ⟨[]⟩ ⟨[.pointer (some ⟨0, 0, none⟩), .pointer (some ⟨1, 0, none⟩), .pointer (some ⟨2, 0, none⟩)]⟩, .int .i64 0] [.func (.func 71) ⟨[]⟩ ⟨[.pointer (some ⟨0, 0, none⟩), .pointer (some ⟨1, 0, none⟩), .pointer (some ⟨2, 0, none⟩)]⟩, .int .i64 0] (.cons (Rn.func' .nil (.cons (Rn.ptr _ _ _ (Nat.le_of_ble_eq_true rfl) rfl) (.cons (Rn.ptr _ _ _ (Nat.le_of_ble_eq_true rfl) rfl) (.cons (Rn.ptr _ _ _ (Nat.le_of_ble_eq_true rfl) rfl) .nil)))) (.cons (.flat (by kernel_rfl)) .nil)) (by kernel_rfl) (by kernel_rfl) rfl) rfl rfl) (TL.post (L70l0 p0 p1 p2 p3 p4 p5 p6 p7 p8 p9 0 r15 h16) ?_))
  rintro e a1 h1 hp
  obtain ⟨rfl, hw⟩ := hp
  refine ⟨(st 11 [(3, .int .i64 r15)]), [.cells 3 [.int .i64 p0], .cells 3 [.int .i64 p1], .cells 108 [.int .i64 p2, .int .i64 p3, .int .i64 p4, .int .i64 p5, .int .i64 p6, .int .i64 p7, .int .i64 p8, .int .i64 p9]], ?_, hw⟩
  refine NX.bkX ?_
  refine NX.sq ?_
  refine TS.seq' (x := c70.s2.s2.s2.s1) (y := c70.s2.s2.s2.s2) (by kernel_rfl) ?_
  refine TS.region' (id := 4) (b := false) (ops := c70.s2.s2.s2.s1.rops) (by kernel_rfl) rfl ?_
  refine TI.run 2 [2] [0, 1, 2] (a2 := (st 11 [(2, .int .i64 r15)])) (h2 := [.cells 3 [.int .i64 p0], .cells 3 [.int .i64 p1], .cells 108 [.int .i64 p2, .int .i64 p3, .int .i64 p4, .int .i64 p5, .int .i64 p6, .int .i64 p7, .int .i64 p8, .int .i64 p9]]) (by kernel_rfl) ?_
  refine TI.done (by kernel_rfl) ?_
  refine NX.sq ?_
  refine TS.ret' (by kernel_rfl) ?_
  have hF := Option.some.inj hF
  subst hF
  exact ⟨.inr rfl, rfl, .int .i64 r15, by kernel_rfl, WkV.flat0 (by kernel_rfl) (Nat.le_of_ble_eq_true rfl)⟩
theorem C70 (p0 : Int) (p1 : Int) (p2 : Int) (p3 : Int) (p4 : Int) (p5 : Int) (p6 : Int) (p7 : Int) (p8 : Int) (p9 : Int) (r : Int) (hF : F70 p0 p1 p2 p3 p4 p5 p6 p7 p8 p9 = some r) : PureSim Try.prog 70 [.func (.func 71) ⟨[]⟩ ⟨[.pointer (some ⟨0, 0, none⟩), .pointer (some ⟨1, 0, none⟩), .pointer (some ⟨2, 0, none⟩)]⟩] [.cells 3 [.int .i64 p0], .cells 3 [.int .i64 p1], .cells 108 [.int .i64 p2, .int .i64 p3, .int .i64 p4, .int .i64 p5, .int .i64 p6, .int .i64 p7, .int .i64 p8, .int .i64 p9]] (V70 3 r) (N70 3 r) :=
  PureSim.of_Fin Try.func70 (c := c70) (by kernel_rfl) (by kernel_rfl) 3 rfl [0] [0, 1, 2] (by kernel_rfl) (B70 p0 p1 p2 p3 p4 p5 p6 p7 p8 p9 r hF)

end Go.Proofs.Ytenjelagfbceeaa
