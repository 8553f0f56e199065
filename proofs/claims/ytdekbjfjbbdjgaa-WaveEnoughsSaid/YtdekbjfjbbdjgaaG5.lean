/- What functions of the program compute, and that they do. -/
import Derived.Test.YtdekbjfjbbdjgaaTs7
import Derived.Test.YtdekbjfjbbdjgaaProg
import Derived.KernelRfl
import Derived.Test.YtdekbjfjbbdjgaaGiven
set_option linter.unusedVariables false
set_option linter.unusedSimpArgs false
set_option maxRecDepth 100000
set_option maxHeartbeats 4000000
namespace Go.Proofs.Ytdekbjfjbbdjgaa
open Go Go.Cl
theorem mixed : Try.prog.follows .mixedOrders = true := by kernel_rfl

-- agonic/wave.between
noncomputable def c51 : Code := Try.f51.code
def F51 (p0 : Int) (p1 : Int) (p2 : Int) : Option Bool :=
  (
    if decide (p0 ≤ p1) then
      some (decide (p1 ≤ p2))
    else
      some (false)
  : Option Bool) >>= fun m2 =>
  some m2
def V51 (b : Nat) (r : Bool) : Value := .bool r
def N51 (b : Nat) (r : Bool) : List Blk := []
theorem B51 (p0 : Int) (p1 : Int) (p2 : Int) (r : Bool) (hF : F51 p0 p1 p2 = some r) : TS Try.prog 0 0 c51 (st 15 [(0, .int .i64 p0), (1, .int .i64 p1), (2, .int .i64 p2)]) [] (NX Try.prog 0 0 [] (FinP Try.prog Try.f51 0 (V51 0 r) (N51 0 r))) := by
  unfold F51 at hF
  refine TS.seq' (x := c51.s1) (y := c51.s2) (by kernel_rfl) ?_
  refine TS.region' (id := 0) (b := false) (ops := c51.s1.rops) (by kernel_rfl) rfl ?_
  refine TI.run 1 [0, 1, 2] [] (a2 := (st 15 [(0, .int .i64 p0), (1, .int .i64 p1), (2, .int .i64 p2)])) (h2 := []) (by kernel_rfl) ?_
  refine TI.done (by kernel_rfl) ?_
  refine NX.sq ?_
  refine TS.seq' (x := c51.s2.s1) (y := c51.s2.s2) (by kernel_rfl) ?_
  have hX := of_do hF
  clear hF
  obtain ⟨m2, hm3, hF⟩ := hX
  have hK : NX Try.prog 0 0 [.sq c51.s2.s2] (FinP Try.prog Try.f51 0 (V51 0 r) (N51 0 r)) .normal (st 15 [(6, .bool m2)]) [] := by
    refine NX.sq ?_
    refine TS.ret' (by kernel_rfl) ?_
    have hF := Option.some.inj hF
    subst hF
    exact ⟨.inr rfl, rfl, .bool m2, by kernel_rfl, WkV.flat0 (by kernel_rfl) (Nat.le_of_ble_eq_true rfl)⟩
  rcases Bool.eq_false_or_eq_true (decide (p0 ≤ p1)) with hc1 | hc1
  · replace hm3 := of_pos hm3 hc1
    have hm3 := Option.some.inj hm3
    subst hm3
    refine TS.region' (id := 1) (b := false) (ops := c51.s2.s1.rops) (by kernel_rfl) rfl ?_
    refine TI.run 2 [1, 2, 7, 8] [] (a2 := (st 15 [(1, .int .i64 p1), (2, .int .i64 p2), (7, .int .i64 p0), (8, .int .i64 p1)])) (h2 := []) (by kernel_rfl) ?_
    refine TI.op (q := { val := .bool true }) (q_conv (e := decide (p0 ≤ p1)) (b := true) (by kernel_rfl) hc1) [1, 2, 9] [] (a2 := (st 15 [(1, .int .i64 p1), (2, .int .i64 p2), (9, .bool true)])) (h2 := []) (by kernel_rfl) ?_
    refine TI.run 6 [6] [] (a2 := (st 15 [(6, .bool (decide (p1 ≤ p2)))])) (h2 := []) (by kernel_rfl) ?_
    refine TI.done (by kernel_rfl) ?_
    exact hK
  · replace hm3 := of_neg hm3 hc1
    have hm3 := Option.some.inj hm3
    subst hm3
    refine TS.region' (id := 1) (b := false) (ops := c51.s2.s1.rops) (by kernel_rfl) rfl ?_
    refine TI.run 2 [1, 2, 7, 8] [] (a2 := (st 15 [(1, .int .i64 p1), (2, .int .i64 p2), (7, .int .i64 p0), (8, .int .i64 p1)])) (h2 := []) (by kernel_rfl) ?_
    refine TI.op (q := { val := .bool false }) (q_conv (e := decide (p0 ≤ p1)) (b := false) (by kernel_rfl) hc1) [1, 2, 9] [] (a2 := (st 15 [(1, .int .i64 p1), (2, .int .i64 p2), (9, .bool false)])) (h2 := []) (by kernel_rfl) ?_
    refine TI.run 6 [6] [] (a2 := (st 15 [(6, .bool false)])) (h2 := []) (by kernel_rfl) ?_
    refine TI.done (by kernel_rfl) ?_
    exact hK
theorem C51 (p0 : Int) (p1 : Int) (p2 : Int) (r : Bool) (hF : F51 p0 p1 p2 = some r) : PureSim Try.prog 51 [.int .i64 p0, .int .i64 p1, .int .i64 p2] [] (V51 0 r) (N51 0 r) :=
  PureSim.of_Fin Try.func51 (c := c51) (by kernel_rfl) (by kernel_rfl) 0 rfl [0, 1, 2] [] (by kernel_rfl) (B51 p0 p1 p2 r hF)

-- agonic/wave.Enough
noncomputable def c30 : Code := Try.f30.code
def F30l0 (p0 : Int) (p1 : Int) (v8 : Int) (v9 : Int) : Option Int :=
    if decide (v9 > 0) then
      if v9 = 0 then none else
      F30l0 p0 p1 v9 (Int.tmod v8 v9)
    else
      some v8
  partial_fixpoint
def F30 (p0 : Int) (p1 : Int) : Option (Int × Int) :=
  F51 1 p0 30 >>= fun r1 =>
  (
    if r1 then
      F51 1 p1 30 >>= fun r3 =>
      if r3 then
        some (false)
      else
        some (true)
    else
      some (true)
  : Option Bool) >>= fun m5 =>
  if m5 then
    some (0, 1)
  else
    F30l0 p0 p1 p0 p1 >>= fun r15 =>
    some (w64 ((w64 (p0 + p1)) - r15), 0)
def V30 (b : Nat) (r : (Int × Int)) : Value := .tuple ⟨[.int .i64 r.1, .int .i64 r.2]⟩
def N30 (b : Nat) (r : (Int × Int)) : List Blk := []
def P30l0 (p0 : Int) (p1 : Int) (r : Int) : Post := fun e a h => e = .exit 0 ∧ Wk Try.prog 0 0 a h (st 29 [(0, .int .i64 p0), (1, .int .i64 p1), (6, .int .i64 r)]) []
theorem L30l0 (p0 : Int) (p1 : Int) (v8 : Int) (v9 : Int) (r : Int) (hF : F30l0 p0 p1 v8 v9 = some r) : TL Try.prog 0 0 c30.s2.s2.s2.s1.bd.bd (st 29 [(0, .int .i64 p0), (1, .int .i64 p1), (6, .int .i64 v8), (7, .int .i64 v9)]) [] (P30l0 p0 p1 r) := by
  refine F30l0.partial_correctness p0 p1 (motive := fun v8 v9 r => TL Try.prog 0 0 c30.s2.s2.s2.s1.bd.bd (st 29 [(0, .int .i64 p0), (1, .int .i64 p1), (6, .int .i64 v8), (7, .int .i64 v9)]) [] (P30l0 p0 p1 r)) ?_ v8 v9 r hF
  clear hF r v8 v9
  intro again ih v8 v9 r hF
  refine TL.round ?_
  refine TS.seq' (x := c30.s2.s2.s2.s1.bd.bd.s1) (y := c30.s2.s2.s2.s1.bd.bd.s2) (by kernel_rfl) ?_
  refine TS.seq' (x := c30.s2.s2.s2.s1.bd.bd.s1.s1) (y := c30.s2.s2.s2.s1.bd.bd.s1.s2) (by kernel_rfl) ?_
  refine TS.region' (id := 4) (b := false) (ops := c30.s2.s2.s2.s1.bd.bd.s1.s1.rops) (by kernel_rfl) rfl ?_
  refine TI.run 2 [0, 1, 6, 7, 19] [] (a2 := (st 29 [(0, .int .i64 p0), (1, .int .i64 p1), (6, .int .i64 v8), (7, .int .i64 v9), (19, .bool (decide (v9 > 0)))])) (h2 := []) (by kernel_rfl) ?_
  refine TI.done (by kernel_rfl) ?_
  refine NX.sq ?_
  refine TS.cond' (o := (.tmp 19)) (x := c30.s2.s2.s2.s1.bd.bd.s1.s2.th) (y := c30.s2.s2.s2.s1.bd.bd.s1.s2.el) (b := decide (v9 > 0)) (by kernel_rfl) (by kernel_rfl) (fun hc13 => ?_) (fun hc13 => ?_)
  · replace hF := of_pos hF hc13
    refine TS.skip' (by kernel_rfl) ?_
    refine NX.sq ?_
    refine TS.block' (id := 1) (x := c30.s2.s2.s2.s1.bd.bd.s2.bd) (by kernel_rfl) ?_
    have hX := of_guardn hF
    clear hF
    obtain ⟨hg14, hF⟩ := hX
    refine TS.drawE (id := 5) (b := true) (ops := c30.s2.s2.s2.s1.bd.bd.s2.bd.rops) (fin := ({ act := (st 29 [(0, .int .i64 p0), (1, .int .i64 p1), (6, .int .i64 v9), (7, .int .i64 v9), (19, .bool (decide (v9 > 0))), (20, .int .i64 v9), (21, .int .i64 v8), (22, .int .i64 v9), (23, .int .i64 (Int.tmod v8 v9))]), heap := [], own := [], upds := [] } : QSt)) (fin2 := ({ act := (st 29 [(0, .int .i64 p0), (1, .int .i64 p1), (6, .int .i64 v9), (7, .int .i64 v9), (19, .bool (decide (v9 > 0))), (20, .int .i64 v9), (21, .int .i64 v8), (22, .int .i64 v9), (23, .int .i64 (Int.tmod v8 v9))]), heap := [], own := [], upds := [] } : QSt)) (a1 := (st 29 [(0, .int .i64 p0), (1, .int .i64 p1), (6, .int .i64 v9), (7, .int .i64 (Int.tmod v8 v9)), (19, .bool (decide (v9 > 0))), (20, .int .i64 v9), (21, .int .i64 v8), (22, .int .i64 v9), (23, .int .i64 (Int.tmod v8 v9))])) (h1 := []) [] (fun e he => by cases he) mixed (by kernel_rfl) rfl 5 (by kernel_rfl) [] ?_ rfl (.inl ⟨rfl, rfl⟩) ?_ ?_
    · refine QI.run (s1 := ({ act := (st 29 [(0, .int .i64 p0), (1, .int .i64 p1), (6, .int .i64 v8), (7, .int .i64 v9), (19, .bool (decide (v9 > 0))), (20, .int .i64 v9), (21, .int .i64 v8), (22, .int .i64 v9)]), heap := [], own := [], upds := [] } : QSt)) 3 (by kernel_rfl) (by kernel_rfl) ?_
      refine QI.op (q := { val := .int .i64 (Int.tmod v8 v9) }) (s1 := ({ act := (st 29 [(0, .int .i64 p0), (1, .int .i64 p1), (6, .int .i64 v8), (7, .int .i64 v9), (19, .bool (decide (v9 > 0))), (20, .int .i64 v9), (21, .int .i64 v8), (22, .int .i64 v9), (23, .int .i64 (Int.tmod v8 v9))]), heap := [], own := [], upds := [] } : QSt)) (by decide) (q_int (P := Try.prog) (op := .rem) (ty := 3) (ox := (.tmp 21)) (oy := (.tmp 22)) (k := .i64) (k' := .i64) (y := v8) (z := v9) (by kernel_rfl) (rem_ok hg14)) (by kernel_rfl) ?_
      refine QI.run (s1 := ({ act := (st 29 [(0, .int .i64 p0), (1, .int .i64 p1), (6, .int .i64 v9), (7, .int .i64 v9), (19, .bool (decide (v9 > 0))), (20, .int .i64 v9), (21, .int .i64 v8), (22, .int .i64 v9), (23, .int .i64 (Int.tmod v8 v9))]), heap := [], own := [], upds := [] } : QSt)) 1 (by kernel_rfl) (by kernel_rfl) ?_
      exact QI.done (by kernel_rfl)
    · refine SI.run (a2 := (st 29 [(0, .int .i64 p0), (1, .int .i64 p1), (6, .int .i64 v9), (7, .int .i64 (Int.tmod v8 v9)), (19, .bool (decide (v9 > 0))), (20, .int .i64 v9), (21, .int .i64 v8), (22, .int .i64 v9), (23, .int .i64 (Int.tmod v8 v9))])) (h2 := []) 1 (by kernel_rfl) ?_
      exact SI.done (by kernel_rfl)
    refine NX.bk ?_
    exact Rd.again (a2 := (st 29 [(0, .int .i64 p0), (1, .int .i64 p1), (6, .int .i64 v9), (7, .int .i64 (Int.tmod v8 v9))])) (h2 := []) (Wk.anew (base := 0) (L := 0) (f := []) (by decide) (by decide) (Nat.le_of_ble_eq_true rfl) rfl (.nil _) (LRn.stx [0, 1, 6, 7] [.int .i64 p0, .int .i64 p1, .int .i64 v9, .int .i64 (Int.tmod v8 v9)] [.int .i64 p0, .int .i64 p1, .int .i64 v9, .int .i64 (Int.tmod v8 v9)] (.cons (.flat (by kernel_rfl)) (.cons (.flat (by kernel_rfl)) (.cons (.flat (by kernel_rfl)) (.cons (.flat (by kernel_rfl)) .nil)))) (by kernel_rfl) (by kernel_rfl) rfl) rfl rfl) (ih v9 (Int.tmod v8 v9) _ hF)
  · replace hF := of_neg hF hc13
    refine TS.exit' (id := 0) (by kernel_rfl) ?_
    refine NX.sqX ?_
    have hF := Option.some.inj hF
    subst hF
    exact Rd.out (e := .exit 0) (by intro h; cases h) (And.intro rfl (Wk.anew (base := 0) (L := 0) (f := []) (by decide) (by decide) (Nat.le_of_ble_eq_true rfl) rfl (.nil _) (LRn.stx [0, 1, 6] [.int .i64 p0, .int .i64 p1, .int .i64 v8] [.int .i64 p0, .int .i64 p1, .int .i64 v8] (.cons (.flat (by kernel_rfl)) (.cons (.flat (by kernel_rfl)) (.cons (.flat (by kernel_rfl)) .nil))) (by kernel_rfl) (by kernel_rfl) rfl) rfl rfl))
theorem B30 (p0 : Int) (p1 : Int) (r : (Int × Int)) (hF : F30 p0 p1 = some r) : TS Try.prog 0 0 c30 (st 29 [(0, .int .i64 p0), (1, .int .i64 p1)]) [] (NX Try.prog 0 0 [] (FinP Try.prog Try.f30 0 (V30 0 r) (N30 0 r))) := by
  unfold F30 at hF
  refine TS.seq' (x := c30.s1) (y := c30.s2) (by kernel_rfl) ?_
  refine TS.region' (id := 0) (b := false) (ops := c30.s1.rops) (by kernel_rfl) rfl ?_
  refine TI.run 2 [0, 1] [] (a2 := (st 29 [(0, .int .i64 p0), (1, .int .i64 p1)])) (h2 := []) (by kernel_rfl) ?_
  refine TI.done (by kernel_rfl) ?_
  refine NX.sq ?_
  refine TS.seq' (x := c30.s2.s1) (y := c30.s2.s2) (by kernel_rfl) ?_
  refine TS.seq' (x := c30.s2.s1.s1) (y := c30.s2.s1.s2) (by kernel_rfl) ?_
  have hX := of_do hF
  clear hF
  obtain ⟨r1, h2, hF⟩ := hX
  have hX := of_do hF
  clear hF
  obtain ⟨m5, hm17, hF⟩ := hX
  have hK : NX Try.prog 0 0 [.sq c30.s2.s1.s2, .sq c30.s2.s2] (FinP Try.prog Try.f30 0 (V30 0 r) (N30 0 r)) .normal (st 29 [(0, .int .i64 p0), (1, .int .i64 p1), (15, .bool m5)]) [] := by
    refine NX.sq ?_
    cases m5 with
    | true =>
      replace hF := of_pos hF rfl
      refine TS.condT' (o := (.tmp 15)) (x := c30.s2.s1.s2.th) (y := c30.s2.s1.s2.el) (by kernel_rfl) (by kernel_rfl) ?_
      refine TS.seq' (x := c30.s2.s1.s2.th.s1) (y := c30.s2.s1.s2.th.s2) (by kernel_rfl) ?_
      refine TS.region' (id := 2) (b := false) (ops := c30.s2.s1.s2.th.s1.rops) (by kernel_rfl) rfl ?_
      refine TI.run 2 [4, 5] [] (a2 := (st 29 [(4, .int .i64 0), (5, .int .i64 1)])) (h2 := []) (by kernel_rfl) ?_
      refine TI.done (by kernel_rfl) ?_
      refine NX.sq ?_
      refine TS.ret' (by kernel_rfl) ?_
      refine NX.sqR ?_
      have hF := Option.some.inj hF
      subst hF
      exact ⟨.inr rfl, rfl, .tuple ⟨[.int .i64 0, .int .i64 1]⟩, by kernel_rfl, WkV.flat0 (by kernel_rfl) (Nat.le_of_ble_eq_true rfl)⟩
    | false =>
      replace hF := of_neg hF rfl
      refine TS.condF' (o := (.tmp 15)) (x := c30.s2.s1.s2.th) (y := c30.s2.s1.s2.el) (by kernel_rfl) (by kernel_rfl) ?_
      refine TS.skip' (by kernel_rfl) ?_
      refine NX.sq ?_
      refine TS.seq' (x := c30.s2.s2.s1) (y := c30.s2.s2.s2) (by kernel_rfl) ?_
      refine TS.region' (id := 3) (b := false) (ops := c30.s2.s2.s1.rops) (by kernel_rfl) rfl ?_
      refine TI.run 4 [0, 1, 6, 7] [] (a2 := (st 29 [(0, .int .i64 p0), (1, .int .i64 p1), (6, .int .i64 p0), (7, .int .i64 p1)])) (h2 := []) (by kernel_rfl) ?_
      refine TI.done (by kernel_rfl) ?_
      refine NX.sq ?_
      refine TS.seq' (x := c30.s2.s2.s2.s1) (y := c30.s2.s2.s2.s2) (by kernel_rfl) ?_
      refine TS.block' (id := 0) (x := c30.s2.s2.s2.s1.bd) (by kernel_rfl) ?_
      have hX := of_do hF
      clear hF
      obtain ⟨r15, h16, hF⟩ := hX
      refine TS.loop' (x := c30.s2.s2.s2.s1.bd.bd) (by kernel_rfl) (TL.weak (a2 := (st 29 [(0, .int .i64 p0), (1, .int .i64 p1), (6, .int .i64 p0), (7, .int .i64 p1)])) (h2 := []) (Wk.anew (base := 0) (L := 0) (f := []) (by decide) (by decide) (Nat.le_of_ble_eq_true rfl) rfl (.nil _) (LRn.stx [0, 1, 6, 7] [.int .i64 p0, .int .i64 p1, .int .i64 p0, .int .i64 p1] [.int .i64 p0, .int .i64 p1, .int .i64 p0, .int .i64 p1] (.cons (.flat (by kernel_rfl)) (.cons (.flat (by kernel_rfl)) (.cons (.flat (by kernel_rfl)) (.cons (.flat (by kernel_rfl)) .nil)))) (by kernel_rfl) (by kernel_rfl) rfl) rfl rfl) (TL.post (L30l0 p0 p1 p0 p1 r15 h16) ?_))
      rintro e a1 h1 hp
      obtain ⟨rfl, hw⟩ := hp
      refine ⟨(st 29 [(0, .int .i64 p0), (1, .int .i64 p1), (6, .int .i64 r15)]), [], ?_, hw⟩
      refine NX.bkX ?_
      refine NX.sq ?_
      refine TS.seq' (x := c30.s2.s2.s2.s2.s1) (y := c30.s2.s2.s2.s2.s2) (by kernel_rfl) ?_
      refine TS.region' (id := 6) (b := false) (ops := c30.s2.s2.s2.s2.s1.rops) (by kernel_rfl) rfl ?_
      refine TI.run 7 [4, 5] [] (a2 := (st 29 [(4, .int .i64 (w64 ((w64 (p0 + p1)) - r15))), (5, .int .i64 0)])) (h2 := []) (by kernel_rfl) ?_
      refine TI.done (by kernel_rfl) ?_
      refine NX.sq ?_
      refine TS.ret' (by kernel_rfl) ?_
      have hF := Option.some.inj hF
      subst hF
      exact ⟨.inr rfl, rfl, .tuple ⟨[.int .i64 (w64 ((w64 (p0 + p1)) - r15)), .int .i64 0]⟩, by kernel_rfl, WkV.flat0 (by kernel_rfl) (Nat.le_of_ble_eq_true rfl)⟩
  cases r1 with
  | true =>
    replace hm17 := of_pos hm17 rfl
    have hX := of_do hm17
    clear hm17
    obtain ⟨r3, h4, hm17⟩ := hX
    cases r3 with
    | true =>
      replace hm17 := of_pos hm17 rfl
      have hm17 := Option.some.inj hm17
      subst hm17
      refine TS.region' (id := 1) (b := false) (ops := c30.s2.s1.s1.rops) (by kernel_rfl) rfl ?_
      refine TI.run 1 [0, 1, 8] [] (a2 := (st 29 [(0, .int .i64 p0), (1, .int .i64 p1), (8, .int .i64 p0)])) (h2 := []) (by kernel_rfl) ?_
      refine TI.callM (g := 51) (args := [.int .i64 1, .int .i64 p0, .int .i64 30]) (v := .bool true) (new := []) (by kernel_rfl) (PureSim.any (C51 1 p0 30 true h2) (flatL (by kernel_rfl)) (by kernel_rfl) []) [0, 1, 9] [] (a2 := (st 29 [(0, .int .i64 p0), (1, .int .i64 p1), (9, .bool true)])) (h2 := []) (by kernel_rfl) ?_
      refine TI.run 3 [0, 1, 11, 12] [] (a2 := (st 29 [(0, .int .i64 p0), (1, .int .i64 p1), (11, .bool false), (12, .int .i64 p1)])) (h2 := []) (by kernel_rfl) ?_
      refine TI.callM (g := 51) (args := [.int .i64 1, .int .i64 p1, .int .i64 30]) (v := .bool true) (new := []) (by kernel_rfl) (PureSim.any (C51 1 p1 30 true h4) (flatL (by kernel_rfl)) (by kernel_rfl) []) [0, 1, 11, 13] [] (a2 := (st 29 [(0, .int .i64 p0), (1, .int .i64 p1), (11, .bool false), (13, .bool true)])) (h2 := []) (by kernel_rfl) ?_
      refine TI.run 2 [0, 1, 15] [] (a2 := (st 29 [(0, .int .i64 p0), (1, .int .i64 p1), (15, .bool false)])) (h2 := []) (by kernel_rfl) ?_
      refine TI.done (by kernel_rfl) ?_
      exact hK
    | false =>
      replace hm17 := of_neg hm17 rfl
      have hm17 := Option.some.inj hm17
      subst hm17
      refine TS.region' (id := 1) (b := false) (ops := c30.s2.s1.s1.rops) (by kernel_rfl) rfl ?_
      refine TI.run 1 [0, 1, 8] [] (a2 := (st 29 [(0, .int .i64 p0), (1, .int .i64 p1), (8, .int .i64 p0)])) (h2 := []) (by kernel_rfl) ?_
      refine TI.callM (g := 51) (args := [.int .i64 1, .int .i64 p0, .int .i64 30]) (v := .bool true) (new := []) (by kernel_rfl) (PureSim.any (C51 1 p0 30 true h2) (flatL (by kernel_rfl)) (by kernel_rfl) []) [0, 1, 9] [] (a2 := (st 29 [(0, .int .i64 p0), (1, .int .i64 p1), (9, .bool true)])) (h2 := []) (by kernel_rfl) ?_
      refine TI.run 3 [0, 1, 11, 12] [] (a2 := (st 29 [(0, .int .i64 p0), (1, .int .i64 p1), (11, .bool false), (12, .int .i64 p1)])) (h2 := []) (by kernel_rfl) ?_
      refine TI.callM (g := 51) (args := [.int .i64 1, .int .i64 p1, .int .i64 30]) (v := .bool false) (new := []) (by kernel_rfl) (PureSim.any (C51 1 p1 30 false h4) (flatL (by kernel_rfl)) (by kernel_rfl) []) [0, 1, 11, 13] [] (a2 := (st 29 [(0, .int .i64 p0), (1, .int .i64 p1), (11, .bool false), (13, .bool false)])) (h2 := []) (by kernel_rfl) ?_
      refine TI.run 2 [0, 1, 15] [] (a2 := (st 29 [(0, .int .i64 p0), (1, .int .i64 p1), (15, .bool true)])) (h2 := []) (by kernel_rfl) ?_
      refine TI.done (by kernel_rfl) ?_
      exact hK
  | false =>
    replace hm17 := of_neg hm17 rfl
    have hm17 := Option.some.inj hm17
    subst hm17
    refine TS.region' (id := 1) (b := false) (ops := c30.s2.s1.s1.rops) (by kernel_rfl) rfl ?_
    refine TI.run 1 [0, 1, 8] [] (a2 := (st 29 [(0, .int .i64 p0), (1, .int .i64 p1), (8, .int .i64 p0)])) (h2 := []) (by kernel_rfl) ?_
    refine TI.callM (g := 51) (args := [.int .i64 1, .int .i64 p0, .int .i64 30]) (v := .bool false) (new := []) (by kernel_rfl) (PureSim.any (C51 1 p0 30 false h2) (flatL (by kernel_rfl)) (by kernel_rfl) []) [0, 1, 9] [] (a2 := (st 29 [(0, .int .i64 p0), (1, .int .i64 p1), (9, .bool false)])) (h2 := []) (by kernel_rfl) ?_
    refine TI.run 6 [0, 1, 15] [] (a2 := (st 29 [(0, .int .i64 p0), (1, .int .i64 p1), (15, .bool true)])) (h2 := []) (by kernel_rfl) ?_
    refine TI.done (by kernel_rfl) ?_
    exact hK
theorem C30 (p0 : Int) (p1 : Int) (r : (Int × Int)) (hF : F30 p0 p1 = some r) : PureSim Try.prog 30 [.int .i64 p0, .int .i64 p1] [] (V30 0 r) (N30 0 r) :=
  PureSim.of_Fin Try.func30 (c := c30) (by kernel_rfl) (by kernel_rfl) 0 rfl [0, 1] [] (by kernel_rfl) (B30 p0 p1 r hF)

-- agonic/agonicref04.is
noncomputable def c52 : Code := Try.f52.code
def F52 (p0 : Int) (p1 : Int) (p2 : Int) : Option Bool :=
  (
    if decide (p0 ≥ p1) then
      some (decide (p0 ≤ p2))
    else
      some (false)
  : Option Bool) >>= fun m2 =>
  some m2
def V52 (b : Nat) (r : Bool) : Value := .bool r
def N52 (b : Nat) (r : Bool) : List Blk := []
theorem B52 (p0 : Int) (p1 : Int) (p2 : Int) (r : Bool) (hF : F52 p0 p1 p2 = some r) : TS Try.prog 0 0 c52 (st 15 [(0, .int .i64 p0), (1, .int .i64 p1), (2, .int .i64 p2)]) [] (NX Try.prog 0 0 [] (FinP Try.prog Try.f52 0 (V52 0 r) (N52 0 r))) := by
  unfold F52 at hF
  refine TS.seq' (x := c52.s1) (y := c52.s2) (by kernel_rfl) ?_
  refine TS.region' (id := 0) (b := false) (ops := c52.s1.rops) (by kernel_rfl) rfl ?_
  refine TI.run 1 [0, 1, 2] [] (a2 := (st 15 [(0, .int .i64 p0), (1, .int .i64 p1), (2, .int .i64 p2)])) (h2 := []) (by kernel_rfl) ?_
  refine TI.done (by kernel_rfl) ?_
  refine NX.sq ?_
  refine TS.seq' (x := c52.s2.s1) (y := c52.s2.s2) (by kernel_rfl) ?_
  have hX := of_do hF
  clear hF
  obtain ⟨m2, hm3, hF⟩ := hX
  have hK : NX Try.prog 0 0 [.sq c52.s2.s2] (FinP Try.prog Try.f52 0 (V52 0 r) (N52 0 r)) .normal (st 15 [(6, .bool m2)]) [] := by
    refine NX.sq ?_
    refine TS.ret' (by kernel_rfl) ?_
    have hF := Option.some.inj hF
    subst hF
    exact ⟨.inr rfl, rfl, .bool m2, by kernel_rfl, WkV.flat0 (by kernel_rfl) (Nat.le_of_ble_eq_true rfl)⟩
  rcases Bool.eq_false_or_eq_true (decide (p0 ≥ p1)) with hc1 | hc1
  · replace hm3 := of_pos hm3 hc1
    have hm3 := Option.some.inj hm3
    subst hm3
    refine TS.region' (id := 1) (b := false) (ops := c52.s2.s1.rops) (by kernel_rfl) rfl ?_
    refine TI.run 2 [0, 2, 7, 8] [] (a2 := (st 15 [(0, .int .i64 p0), (2, .int .i64 p2), (7, .int .i64 p0), (8, .int .i64 p1)])) (h2 := []) (by kernel_rfl) ?_
    refine TI.op (q := { val := .bool true }) (q_conv (e := decide (p0 ≥ p1)) (b := true) (by kernel_rfl) hc1) [0, 2, 9] [] (a2 := (st 15 [(0, .int .i64 p0), (2, .int .i64 p2), (9, .bool true)])) (h2 := []) (by kernel_rfl) ?_
    refine TI.run 6 [6] [] (a2 := (st 15 [(6, .bool (decide (p0 ≤ p2)))])) (h2 := []) (by kernel_rfl) ?_
    refine TI.done (by kernel_rfl) ?_
    exact hK
  · replace hm3 := of_neg hm3 hc1
    have hm3 := Option.some.inj hm3
    subst hm3
    refine TS.region' (id := 1) (b := false) (ops := c52.s2.s1.rops) (by kernel_rfl) rfl ?_
    refine TI.run 2 [0, 2, 7, 8] [] (a2 := (st 15 [(0, .int .i64 p0), (2, .int .i64 p2), (7, .int .i64 p0), (8, .int .i64 p1)])) (h2 := []) (by kernel_rfl) ?_
    refine TI.op (q := { val := .bool false }) (q_conv (e := decide (p0 ≥ p1)) (b := false) (by kernel_rfl) hc1) [0, 2, 9] [] (a2 := (st 15 [(0, .int .i64 p0), (2, .int .i64 p2), (9, .bool false)])) (h2 := []) (by kernel_rfl) ?_
    refine TI.run 6 [6] [] (a2 := (st 15 [(6, .bool false)])) (h2 := []) (by kernel_rfl) ?_
    refine TI.done (by kernel_rfl) ?_
    exact hK
theorem C52 (p0 : Int) (p1 : Int) (p2 : Int) (r : Bool) (hF : F52 p0 p1 p2 = some r) : PureSim Try.prog 52 [.int .i64 p0, .int .i64 p1, .int .i64 p2] [] (V52 0 r) (N52 0 r) :=
  PureSim.of_Fin Try.func52 (c := c52) (by kernel_rfl) (by kernel_rfl) 0 rfl [0, 1, 2] [] (by kernel_rfl) (B52 p0 p1 p2 r hF)

-- agonic/agonicref04.Enough
noncomputable def c31 : Code := Try.f31.code
def F31l0 (p0 : Int) (p1 : Int) (v8 : Int) (v9 : Int) : Option Int :=
    if decide (v9 > 0) then
      if v9 = 0 then none else
      F31l0 p0 p1 v9 (Int.tmod v8 v9)
    else
      some v8
  partial_fixpoint
def F31 (p0 : Int) (p1 : Int) : Option (Int × Int) :=
  F52 p0 1 30 >>= fun r1 =>
  (
    if r1 then
      F52 p1 1 30 >>= fun r3 =>
      if r3 then
        some (false)
      else
        some (true)
    else
      some (true)
  : Option Bool) >>= fun m5 =>
  if m5 then
    some (0, 1)
  else
    F31l0 p0 p1 p0 p1 >>= fun r15 =>
    some (w64 ((w64 (p0 + p1)) - r15), 0)
def V31 (b : Nat) (r : (Int × Int)) : Value := .tuple ⟨[.int .i64 r.1, .int .i64 r.2]⟩
def N31 (b : Nat) (r : (Int × Int)) : List Blk := []
def P31l0 (p0 : Int) (p1 : Int) (r : Int) : Post := fun e a h => e = .exit 0 ∧ Wk Try.prog 0 0 a h (st 29 [(0, .int .i64 p0), (1, .int .i64 p1), (6, .int .i64 r)]) []
theorem L31l0 (p0 : Int) (p1 : Int) (v8 : Int) (v9 : Int) (r : Int) (hF : F31l0 p0 p1 v8 v9 = some r) : TL Try.prog 0 0 c31.s2.s2.s2.s1.bd.bd (st 29 [(0, .int .i64 p0), (1, .int .i64 p1), (6, .int .i64 v8), (7, .int .i64 v9)]) [] (P31l0 p0 p1 r) := by
  refine F31l0.partial_correctness p0 p1 (motive := fun v8 v9 r => TL Try.prog 0 0 c31.s2.s2.s2.s1.bd.bd (st 29 [(0, .int .i64 p0), (1, .int .i64 p1), (6, .int .i64 v8), (7, .int .i64 v9)]) [] (P31l0 p0 p1 r)) ?_ v8 v9 r hF
  clear hF r v8 v9
  intro again ih v8 v9 r hF
  refine TL.round ?_
  refine TS.seq' (x := c31.s2.s2.s2.s1.bd.bd.s1) (y := c31.s2.s2.s2.s1.bd.bd.s2) (by kernel_rfl) ?_
  refine TS.seq' (x := c31.s2.s2.s2.s1.bd.bd.s1.s1) (y := c31.s2.s2.s2.s1.bd.bd.s1.s2) (by kernel_rfl) ?_
  refine TS.region' (id := 4) (b := false) (ops := c31.s2.s2.s2.s1.bd.bd.s1.s1.rops) (by kernel_rfl) rfl ?_
  refine TI.run 2 [0, 1, 6, 7, 19] [] (a2 := (st 29 [(0, .int .i64 p0), (1, .int .i64 p1), (6, .int .i64 v8), (7, .int .i64 v9), (19, .bool (decide (v9 > 0)))])) (h2 := []) (by kernel_rfl) ?_
  refine TI.done (by kernel_rfl) ?_
  refine NX.sq ?_
  refine TS.cond' (o := (.tmp 19)) (x := c31.s2.s2.s2.s1.bd.bd.s1.s2.th) (y := c31.s2.s2.s2.s1.bd.bd.s1.s2.el) (b := decide (v9 > 0)) (by kernel_rfl) (by kernel_rfl) (fun hc13 => ?_) (fun hc13 => ?_)
  · replace hF := of_pos hF hc13
    refine TS.skip' (by kernel_rfl) ?_
    refine NX.sq ?_
    refine TS.block' (id := 1) (x := c31.s2.s2.s2.s1.bd.bd.s2.bd) (by kernel_rfl) ?_
    have hX := of_guardn hF
    clear hF
    obtain ⟨hg14, hF⟩ := hX
    refine TS.drawE (id := 5) (b := true) (ops := c31.s2.s2.s2.s1.bd.bd.s2.bd.rops) (fin := ({ act := (st 29 [(0, .int .i64 p0), (1, .int .i64 p1), (6, .int .i64 v9), (7, .int .i64 v9), (19, .bool (decide (v9 > 0))), (20, .int .i64 v9), (21, .int .i64 v8), (22, .int .i64 v9), (23, .int .i64 (Int.tmod v8 v9))]), heap := [], own := [], upds := [] } : QSt)) (fin2 := ({ act := (st 29 [(0, .int .i64 p0), (1, .int .i64 p1), (6, .int .i64 v9), (7, .int .i64 v9), (19, .bool (decide (v9 > 0))), (20, .int .i64 v9), (21, .int .i64 v8), (22, .int .i64 v9), (23, .int .i64 (Int.tmod v8 v9))]), heap := [], own := [], upds := [] } : QSt)) (a1 := (st 29 [(0, .int .i64 p0), (1, .int .i64 p1), (6, .int .i64 v9), (7, .int .i64 (Int.tmod v8 v9)), (19, .bool (decide (v9 > 0))), (20, .int .i64 v9), (21, .int .i64 v8), (22, .int .i64 v9), (23, .int .i64 (Int.tmod v8 v9))])) (h1 := []) [] (fun e he => by cases he) mixed (by kernel_rfl) rfl 5 (by kernel_rfl) [] ?_ rfl (.inl ⟨rfl, rfl⟩) ?_ ?_
    · refine QI.run (s1 := ({ act := (st 29 [(0, .int .i64 p0), (1, .int .i64 p1), (6, .int .i64 v8), (7, .int .i64 v9), (19, .bool (decide (v9 > 0))), (20, .int .i64 v9), (21, .int .i64 v8), (22, .int .i64 v9)]), heap := [], own := [], upds := [] } : QSt)) 3 (by kernel_rfl) (by kernel_rfl) ?_
      refine QI.op (q := { val := .int .i64 (Int.tmod v8 v9) }) (s1 := ({ act := (st 29 [(0, .int .i64 p0), (1, .int .i64 p1), (6, .int .i64 v8), (7, .int .i64 v9), (19, .bool (decide (v9 > 0))), (20, .int .i64 v9), (21, .int .i64 v8), (22, .int .i64 v9), (23, .int .i64 (Int.tmod v8 v9))]), heap := [], own := [], upds := [] } : QSt)) (by decide) (q_int (P := Try.prog) (op := .rem) (ty := 3) (ox := (.tmp 21)) (oy := (.tmp 22)) (k := .i64) (k' := .i64) (y := v8) (z := v9) (by kernel_rfl) (rem_ok hg14)) (by kernel_rfl) ?_
      refine QI.run (s1 := ({ act := (st 29 [(0, .int .i64 p0), (1, .int .i64 p1), (6, .int .i64 v9), (7, .int .i64 v9), (19, .bool (decide (v9 > 0))), (20, .int .i64 v9), (21, .int .i64 v8), (22, .int .i64 v9), (23, .int .i64 (Int.tmod v8 v9))]), heap := [], own := [], upds := [] } : QSt)) 1 (by kernel_rfl) (by kernel_rfl) ?_
      exact QI.done (by kernel_rfl)
    · refine SI.run (a2 := (st 29 [(0, .int .i64 p0), (1, .int .i64 p1), (6, .int .i64 v9), (7, .int .i64 (Int.tmod v8 v9)), (19, .bool (decide (v9 > 0))), (20, .int .i64 v9), (21, .int .i64 v8), (22, .int .i64 v9), (23, .int .i64 (Int.tmod v8 v9))])) (h2 := []) 1 (by kernel_rfl) ?_
      exact SI.done (by kernel_rfl)
    refine NX.bk ?_
    exact Rd.again (a2 := (st 29 [(0, .int .i64 p0), (1, .int .i64 p1), (6, .int .i64 v9), (7, .int .i64 (Int.tmod v8 v9))])) (h2 := []) (Wk.anew (base := 0) (L := 0) (f := []) (by decide) (by decide) (Nat.le_of_ble_eq_true rfl) rfl (.nil _) (LRn.stx [0, 1, 6, 7] [.int .i64 p0, .int .i64 p1, .int .i64 v9, .int .i64 (Int.tmod v8 v9)] [.int .i64 p0, .int .i64 p1, .int .i64 v9, .int .i64 (Int.tmod v8 v9)] (.cons (.flat (by kernel_rfl)) (.cons (.flat (by kernel_rfl)) (.cons (.flat (by kernel_rfl)) (.cons (.flat (by kernel_rfl)) .nil)))) (by kernel_rfl) (by kernel_rfl) rfl) rfl rfl) (ih v9 (Int.tmod v8 v9) _ hF)
  · replace hF := of_neg hF hc13
    refine TS.exit' (id := 0) (by kernel_rfl) ?_
    refine NX.sqX ?_
    have hF := Option.some.inj hF
    subst hF
    exact Rd.out (e := .exit 0) (by intro h; cases h) (And.intro rfl (Wk.anew (base := 0) (L := 0) (f := []) (by decide) (by decide) (Nat.le_of_ble_eq_true rfl) rfl (.nil _) (LRn.stx [0, 1, 6] [.int .i64 p0, .int .i64 p1, .int .i64 v8] [.int .i64 p0, .int .i64 p1, .int .i64 v8] (.cons (.flat (by kernel_rfl)) (.cons (.flat (by kernel_rfl)) (.cons (.flat (by kernel_rfl)) .nil))) (by kernel_rfl) (by kernel_rfl) rfl) rfl rfl))
theorem B31 (p0 : Int) (p1 : Int) (r : (Int × Int)) (hF : F31 p0 p1 = some r) : TS Try.prog 0 0 c31 (st 29 [(0, .int .i64 p0), (1, .int .i64 p1)]) [] (NX Try.prog 0 0 [] (FinP Try.prog Try.f31 0 (V31 0 r) (N31 0 r))) := by
  unfold F31 at hF
  refine TS.seq' (x := c31.s1) (y := c31.s2) (by kernel_rfl) ?_
  refine TS.region' (id := 0) (b := false) (ops := c31.s1.rops) (by kernel_rfl) rfl ?_
  refine TI.run 2 [0, 1] [] (a2 := (st 29 [(0, .int .i64 p0), (1, .int .i64 p1)])) (h2 := []) (by kernel_rfl) ?_
  refine TI.done (by kernel_rfl) ?_
  refine NX.sq ?_
  refine TS.seq' (x := c31.s2.s1) (y := c31.s2.s2) (by kernel_rfl) ?_
  refine TS.seq' (x := c31.s2.s1.s1) (y := c31.s2.s1.s2) (by kernel_rfl) ?_
  have hX := of_do hF
  clear hF
  obtain ⟨r1, h2, hF⟩ := hX
  have hX := of_do hF
  clear hF
  obtain ⟨m5, hm17, hF⟩ := hX
  have hK : NX Try.prog 0 0 [.sq c31.s2.s1.s2, .sq c31.s2.s2] (FinP Try.prog Try.f31 0 (V31 0 r) (N31 0 r)) .normal (st 29 [(0, .int .i64 p0), (1, .int .i64 p1), (15, .bool m5)]) [] := by
    refine NX.sq ?_
    cases m5 with
    | true =>
      replace hF := of_pos hF rfl
      refine TS.condT' (o := (.tmp 15)) (x := c31.s2.s1.s2.th) (y := c31.s2.s1.s2.el) (by kernel_rfl) (by kernel_rfl) ?_
      refine TS.seq' (x := c31.s2.s1.s2.th.s1) (y := c31.s2.s1.s2.th.s2) (by kernel_rfl) ?_
      refine TS.region' (id := 2) (b := false) (ops := c31.s2.s1.s2.th.s1.rops) (by kernel_rfl) rfl ?_
      refine TI.run 2 [4, 5] [] (a2 := (st 29 [(4, .int .i64 0), (5, .int .i64 1)])) (h2 := []) (by kernel_rfl) ?_
      refine TI.done (by kernel_rfl) ?_
      refine NX.sq ?_
      refine TS.ret' (by kernel_rfl) ?_
      refine NX.sqR ?_
      have hF := Option.some.inj hF
      subst hF
      exact ⟨.inr rfl, rfl, .tuple ⟨[.int .i64 0, .int .i64 1]⟩, by kernel_rfl, WkV.flat0 (by kernel_rfl) (Nat.le_of_ble_eq_true rfl)⟩
    | false =>
      replace hF := of_neg hF rfl
      refine TS.condF' (o := (.tmp 15)) (x := c31.s2.s1.s2.th) (y := c31.s2.s1.s2.el) (by kernel_rfl) (by kernel_rfl) ?_
      refine TS.skip' (by kernel_rfl) ?_
      refine NX.sq ?_
      refine TS.seq' (x := c31.s2.s2.s1) (y := c31.s2.s2.s2) (by kernel_rfl) ?_
      refine TS.region' (id := 3) (b := false) (ops := c31.s2.s2.s1.rops) (by kernel_rfl) rfl ?_
      refine TI.run 4 [0, 1, 6, 7] [] (a2 := (st 29 [(0, .int .i64 p0), (1, .int .i64 p1), (6, .int .i64 p0), (7, .int .i64 p1)])) (h2 := []) (by kernel_rfl) ?_
      refine TI.done (by kernel_rfl) ?_
      refine NX.sq ?_
      refine TS.seq' (x := c31.s2.s2.s2.s1) (y := c31.s2.s2.s2.s2) (by kernel_rfl) ?_
      refine TS.block' (id := 0) (x := c31.s2.s2.s2.s1.bd) (by kernel_rfl) ?_
      have hX := of_do hF
      clear hF
      obtain ⟨r15, h16, hF⟩ := hX
      refine TS.loop' (x := c31.s2.s2.s2.s1.bd.bd) (by kernel_rfl) (TL.weak (a2 := (st 29 [(0, .int .i64 p0), (1, .int .i64 p1), (6, .int .i64 p0), (7, .int .i64 p1)])) (h2 := []) (Wk.anew (base := 0) (L := 0) (f := []) (by decide) (by decide) (Nat.le_of_ble_eq_true rfl) rfl (.nil _) (LRn.stx [0, 1, 6, 7] [.int .i64 p0, .int .i64 p1, .int .i64 p0, .int .i64 p1] [.int .i64 p0, .int .i64 p1, .int .i64 p0, .int .i64 p1] (.cons (.flat (by kernel_rfl)) (.cons (.flat (by kernel_rfl)) (.cons (.flat (by kernel_rfl)) (.cons (.flat (by kernel_rfl)) .nil)))) (by kernel_rfl) (by kernel_rfl) rfl) rfl rfl) (TL.post (L31l0 p0 p1 p0 p1 r15 h16) ?_))
      rintro e a1 h1 hp
      obtain ⟨rfl, hw⟩ := hp
      refine ⟨(st 29 [(0, .int .i64 p0), (1, .int .i64 p1), (6, .int .i64 r15)]), [], ?_, hw⟩
      refine NX.bkX ?_
      refine NX.sq ?_
      refine TS.seq' (x := c31.s2.s2.s2.s2.s1) (y := c31.s2.s2.s2.s2.s2) (by kernel_rfl) ?_
      refine TS.region' (id := 6) (b := false) (ops := c31.s2.s2.s2.s2.s1.rops) (by kernel_rfl) rfl ?_
      refine TI.run 7 [4, 5] [] (a2 := (st 29 [(4, .int .i64 (w64 ((w64 (p0 + p1)) - r15))), (5, .int .i64 0)])) (h2 := []) (by kernel_rfl) ?_
      refine TI.done (by kernel_rfl) ?_
      refine NX.sq ?_
      refine TS.ret' (by kernel_rfl) ?_
      have hF := Option.some.inj hF
      subst hF
      exact ⟨.inr rfl, rfl, .tuple ⟨[.int .i64 (w64 ((w64 (p0 + p1)) - r15)), .int .i64 0]⟩, by kernel_rfl, WkV.flat0 (by kernel_rfl) (Nat.le_of_ble_eq_true rfl)⟩
  cases r1 with
  | true =>
    replace hm17 := of_pos hm17 rfl
    have hX := of_do hm17
    clear hm17
    obtain ⟨r3, h4, hm17⟩ := hX
    cases r3 with
    | true =>
      replace hm17 := of_pos hm17 rfl
      have hm17 := Option.some.inj hm17
      subst hm17
      refine TS.region' (id := 1) (b := false) (ops := c31.s2.s1.s1.rops) (by kernel_rfl) rfl ?_
      refine TI.run 1 [0, 1, 8] [] (a2 := (st 29 [(0, .int .i64 p0), (1, .int .i64 p1), (8, .int .i64 p0)])) (h2 := []) (by kernel_rfl) ?_
      refine TI.callM (g := 52) (args := [.int .i64 p0, .int .i64 1, .int .i64 30]) (v := .bool true) (new := []) (by kernel_rfl) (PureSim.any (C52 p0 1 30 true h2) (flatL (by kernel_rfl)) (by kernel_rfl) []) [0, 1, 9] [] (a2 := (st 29 [(0, .int .i64 p0), (1, .int .i64 p1), (9, .bool true)])) (h2 := []) (by kernel_rfl) ?_
      refine TI.run 3 [0, 1, 11, 12] [] (a2 := (st 29 [(0, .int .i64 p0), (1, .int .i64 p1), (11, .bool false), (12, .int .i64 p1)])) (h2 := []) (by kernel_rfl) ?_
      refine TI.callM (g := 52) (args := [.int .i64 p1, .int .i64 1, .int .i64 30]) (v := .bool true) (new := []) (by kernel_rfl) (PureSim.any (C52 p1 1 30 true h4) (flatL (by kernel_rfl)) (by kernel_rfl) []) [0, 1, 11, 13] [] (a2 := (st 29 [(0, .int .i64 p0), (1, .int .i64 p1), (11, .bool false), (13, .bool true)])) (h2 := []) (by kernel_rfl) ?_
      refine TI.run 2 [0, 1, 15] [] (a2 := (st 29 [(0, .int .i64 p0), (1, .int .i64 p1), (15, .bool false)])) (h2 := []) (by kernel_rfl) ?_
      refine TI.done (by kernel_rfl) ?_
      exact hK
    | false =>
      replace hm17 := of_neg hm17 rfl
      have hm17 := Option.some.inj hm17
      subst hm17
      refine TS.region' (id := 1) (b := false) (ops := c31.s2.s1.s1.rops) (by kernel_rfl) rfl ?_
      refine TI.run 1 [0, 1, 8] [] (a2 := (st 29 [(0, .int .i64 p0), (1, .int .i64 p1), (8, .int .i64 p0)])) (h2 := []) (by kernel_rfl) ?_
      refine TI.callM (g := 52) (args := [.int .i64 p0, .int .i64 1, .int .i64 30]) (v := .bool true) (new := []) (by kernel_rfl) (PureSim.any (C52 p0 1 30 true h2) (flatL (by kernel_rfl)) (by kernel_rfl) []) [0, 1, 9] [] (a2 := (st 29 [(0, .int .i64 p0), (1, .int .i64 p1), (9, .bool true)])) (h2 := []) (by kernel_rfl) ?_
      refine TI.run 3 [0, 1, 11, 12] [] (a2 := (st 29 [(0, .int .i64 p0), (1, .int .i64 p1), (11, .bool false), (12, .int .i64 p1)])) (h2 := []) (by kernel_rfl) ?_
      refine TI.callM (g := 52) (args := [.int .i64 p1, .int .i64 1, .int .i64 30]) (v := .bool false) (new := []) (by kernel_rfl) (PureSim.any (C52 p1 1 30 false h4) (flatL (by kernel_rfl)) (by kernel_rfl) []) [0, 1, 11, 13] [] (a2 := (st 29 [(0, .int .i64 p0), (1, .int .i64 p1), (11, .bool false), (13, .bool false)])) (h2 := []) (by kernel_rfl) ?_
      refine TI.run 2 [0, 1, 15] [] (a2 := (st 29 [(0, .int .i64 p0), (1, .int .i64 p1), (15, .bool true)])) (h2 := []) (by kernel_rfl) ?_
      refine TI.done (by kernel_rfl) ?_
      exact hK
  | false =>
    replace hm17 := of_neg hm17 rfl
    have hm17 := Option.some.inj hm17
    subst hm17
    refine TS.region' (id := 1) (b := false) (ops := c31.s2.s1.s1.rops) (by kernel_rfl) rfl ?_
    refine TI.run 1 [0, 1, 8] [] (a2 := (st 29 [(0, .int .i64 p0), (1, .int .i64 p1), (8, .int .i64 p0)])) (h2 := []) (by kernel_rfl) ?_
    refine TI.callM (g := 52) (args := [.int .i64 p0, .int .i64 1, .int .i64 30]) (v := .bool false) (new := []) (by kernel_rfl) (PureSim.any (C52 p0 1 30 false h2) (flatL (by kernel_rfl)) (by kernel_rfl) []) [0, 1, 9] [] (a2 := (st 29 [(0, .int .i64 p0), (1, .int .i64 p1), (9, .bool false)])) (h2 := []) (by kernel_rfl) ?_
    refine TI.run 6 [0, 1, 15] [] (a2 := (st 29 [(0, .int .i64 p0), (1, .int .i64 p1), (15, .bool true)])) (h2 := []) (by kernel_rfl) ?_
    refine TI.done (by kernel_rfl) ?_
    exact hK
theorem C31 (p0 : Int) (p1 : Int) (r : (Int × Int)) (hF : F31 p0 p1 = some r) : PureSim Try.prog 31 [.int .i64 p0, .int .i64 p1] [] (V31 0 r) (N31 0 r) :=
  PureSim.of_Fin Try.func31 (c := c31) (by kernel_rfl) (by kernel_rfl) 0 rfl [0, 1] [] (by kernel_rfl) (B31 p0 p1 r hF)

-- agonic/agoniclaw04.WaveEnoughs
noncomputable def c5 : Code := Try.f5.code
def F5 (p0 : Int) (p1 : Int) : Option Bool :=
  F30 p0 p1 >>= fun r1 =>
  F31 p0 p1 >>= fun r3 =>
  (
    if r1.1 == r3.1 then
      if r1.2 == r3.2 then
        F14 >>= fun r7 =>
        some (r7)
      else
        some (false)
    else
      some (false)
  : Option Bool) >>= fun m9 =>
  some m9
def V5 (b : Nat) (r : Bool) : Value := .bool r
def N5 (b : Nat) (r : Bool) : List Blk := []
theorem B5 (p0 : Int) (p1 : Int) (r : Bool) (hF : F5 p0 p1 = some r) : TS Try.prog 0 0 c5 (st 32 [(0, .int .i64 p0), (1, .int .i64 p1)]) [] (NX Try.prog 0 0 [] (FinP Try.prog Try.f5 0 (V5 0 r) (N5 0 r))) := by
  unfold F5 at hF
  refine TS.seq' (x := c5.s1) (y := c5.s2) (by kernel_rfl) ?_
  refine TS.region' (id := 0) (b := false) (ops := c5.s1.rops) (by kernel_rfl) rfl ?_
  refine TI.run 1 [0, 1] [] (a2 := (st 32 [(0, .int .i64 p0), (1, .int .i64 p1)])) (h2 := []) (by kernel_rfl) ?_
  refine TI.done (by kernel_rfl) ?_
  refine NX.sq ?_
  refine TS.seq' (x := c5.s2.s1) (y := c5.s2.s2) (by kernel_rfl) ?_
  have hX := of_do hF
  clear hF
  obtain ⟨r1, h2, hF⟩ := hX
  refine TS.region' (id := 1) (b := false) (ops := c5.s2.s1.rops) (by kernel_rfl) rfl ?_
  refine TI.run 2 [0, 1, 10, 11] [] (a2 := (st 32 [(0, .int .i64 p0), (1, .int .i64 p1), (10, .int .i64 p0), (11, .int .i64 p1)])) (h2 := []) (by kernel_rfl) ?_
  refine TI.callM (g := 30) (args := [.int .i64 p0, .int .i64 p1]) (v := .tuple ⟨[.int .i64 r1.1, .int .i64 r1.2]⟩) (new := []) (by kernel_rfl) (PureSim.any (C30 p0 p1 r1 h2) (flatL (by kernel_rfl)) (by kernel_rfl) []) [0, 1, 12] [] (a2 := (st 32 [(0, .int .i64 p0), (1, .int .i64 p1), (12, .tuple ⟨[.int .i64 r1.1, .int .i64 r1.2]⟩)])) (h2 := []) (by kernel_rfl) ?_
  refine TI.run 5 [0, 1, 5, 6] [] (a2 := (st 32 [(0, .int .i64 p0), (1, .int .i64 p1), (5, .int .i64 r1.1), (6, .int .i64 r1.2)])) (h2 := []) (by kernel_rfl) ?_
  refine TI.done (by kernel_rfl) ?_
  refine NX.sq ?_
  refine TS.seq' (x := c5.s2.s2.s1) (y := c5.s2.s2.s2) (by kernel_rfl) ?_
  have hX := of_do hF
  clear hF
  obtain ⟨r3, h4, hF⟩ := hX
  refine TS.region' (id := 2) (b := false) (ops := c5.s2.s2.s1.rops) (by kernel_rfl) rfl ?_
  refine TI.run 2 [5, 6, 16, 17] [] (a2 := (st 32 [(5, .int .i64 r1.1), (6, .int .i64 r1.2), (16, .int .i64 p0), (17, .int .i64 p1)])) (h2 := []) (by kernel_rfl) ?_
  refine TI.callM (g := 31) (args := [.int .i64 p0, .int .i64 p1]) (v := .tuple ⟨[.int .i64 r3.1, .int .i64 r3.2]⟩) (new := []) (by kernel_rfl) (PureSim.any (C31 p0 p1 r3 h4) (flatL (by kernel_rfl)) (by kernel_rfl) []) [5, 6, 18] [] (a2 := (st 32 [(5, .int .i64 r1.1), (6, .int .i64 r1.2), (18, .tuple ⟨[.int .i64 r3.1, .int .i64 r3.2]⟩)])) (h2 := []) (by kernel_rfl) ?_
  refine TI.run 5 [5, 6, 7, 8] [] (a2 := (st 32 [(5, .int .i64 r1.1), (6, .int .i64 r1.2), (7, .int .i64 r3.1), (8, .int .i64 r3.2)])) (h2 := []) (by kernel_rfl) ?_
  refine TI.done (by kernel_rfl) ?_
  refine NX.sq ?_
  refine TS.seq' (x := c5.s2.s2.s2.s1) (y := c5.s2.s2.s2.s2) (by kernel_rfl) ?_
  have hX := of_do hF
  clear hF
  obtain ⟨m9, hm10, hF⟩ := hX
  have hK : NX Try.prog 0 0 [.sq c5.s2.s2.s2.s2] (FinP Try.prog Try.f5 0 (V5 0 r) (N5 0 r)) .normal (st 32 [(4, .bool m9)]) [] := by
    refine NX.sq ?_
    refine TS.ret' (by kernel_rfl) ?_
    have hF := Option.some.inj hF
    subst hF
    exact ⟨.inr rfl, rfl, .bool m9, by kernel_rfl, WkV.flat0 (by kernel_rfl) (Nat.le_of_ble_eq_true rfl)⟩
  rcases Bool.eq_false_or_eq_true (r1.1 == r3.1) with hc5 | hc5
  · replace hm10 := of_pos hm10 hc5
    rcases Bool.eq_false_or_eq_true (r1.2 == r3.2) with hc6 | hc6
    · replace hm10 := of_pos hm10 hc6
      have hX := of_do hm10
      clear hm10
      obtain ⟨r7, h8, hm10⟩ := hX
      have hm10 := Option.some.inj hm10
      subst hm10
      refine TS.region' (id := 3) (b := false) (ops := c5.s2.s2.s2.s1.rops) (by kernel_rfl) rfl ?_
      refine TI.run 2 [6, 8, 21, 22] [] (a2 := (st 32 [(6, .int .i64 r1.2), (8, .int .i64 r3.2), (21, .int .i64 r1.1), (22, .int .i64 r3.1)])) (h2 := []) (by kernel_rfl) ?_
      refine TI.op (q := { val := .bool true }) (q_conv (e := r1.1 == r3.1) (b := true) (by kernel_rfl) hc5) [6, 8, 23] [] (a2 := (st 32 [(6, .int .i64 r1.2), (8, .int .i64 r3.2), (23, .bool true)])) (h2 := []) (by kernel_rfl) ?_
      refine TI.run 3 [24, 25, 26] [] (a2 := (st 32 [(24, .bool true), (25, .int .i64 r1.2), (26, .int .i64 r3.2)])) (h2 := []) (by kernel_rfl) ?_
      refine TI.op (q := { val := .bool true }) (q_conv (e := r1.2 == r3.2) (b := true) (by kernel_rfl) hc6) [24, 27] [] (a2 := (st 32 [(24, .bool true), (27, .bool true)])) (h2 := []) (by kernel_rfl) ?_
      refine TI.run 2 [29] [] (a2 := (st 32 [(29, .bool true)])) (h2 := []) (by kernel_rfl) ?_
      refine TI.callM (g := 14) (args := []) (v := .bool r7) (new := []) (by kernel_rfl) (PureSim.any (C14  r7 h8) (flatL (by kernel_rfl)) (by kernel_rfl) []) [29, 30] [] (a2 := (st 32 [(29, .bool true), (30, .bool r7)])) (h2 := []) (by kernel_rfl) ?_
      refine TI.run 2 [4] [] (a2 := (st 32 [(4, .bool r7)])) (h2 := []) (by kernel_rfl) ?_
      refine TI.done (by kernel_rfl) ?_
      exact hK
    · replace hm10 := of_neg hm10 hc6
      have hm10 := Option.some.inj hm10
      subst hm10
      refine TS.region' (id := 3) (b := false) (ops := c5.s2.s2.s2.s1.rops) (by kernel_rfl) rfl ?_
      refine TI.run 2 [6, 8, 21, 22] [] (a2 := (st 32 [(6, .int .i64 r1.2), (8, .int .i64 r3.2), (21, .int .i64 r1.1), (22, .int .i64 r3.1)])) (h2 := []) (by kernel_rfl) ?_
      refine TI.op (q := { val := .bool true }) (q_conv (e := r1.1 == r3.1) (b := true) (by kernel_rfl) hc5) [6, 8, 23] [] (a2 := (st 32 [(6, .int .i64 r1.2), (8, .int .i64 r3.2), (23, .bool true)])) (h2 := []) (by kernel_rfl) ?_
      refine TI.run 3 [24, 25, 26] [] (a2 := (st 32 [(24, .bool true), (25, .int .i64 r1.2), (26, .int .i64 r3.2)])) (h2 := []) (by kernel_rfl) ?_
      refine TI.op (q := { val := .bool false }) (q_conv (e := r1.2 == r3.2) (b := false) (by kernel_rfl) hc6) [24, 27] [] (a2 := (st 32 [(24, .bool true), (27, .bool false)])) (h2 := []) (by kernel_rfl) ?_
      refine TI.run 5 [4] [] (a2 := (st 32 [(4, .bool false)])) (h2 := []) (by kernel_rfl) ?_
      refine TI.done (by kernel_rfl) ?_
      exact hK
  · replace hm10 := of_neg hm10 hc5
    have hm10 := Option.some.inj hm10
    subst hm10
    refine TS.region' (id := 3) (b := false) (ops := c5.s2.s2.s2.s1.rops) (by kernel_rfl) rfl ?_
    refine TI.run 2 [6, 8, 21, 22] [] (a2 := (st 32 [(6, .int .i64 r1.2), (8, .int .i64 r3.2), (21, .int .i64 r1.1), (22, .int .i64 r3.1)])) (h2 := []) (by kernel_rfl) ?_
    refine TI.op (q := { val := .bool false }) (q_conv (e := r1.1 == r3.1) (b := false) (by kernel_rfl) hc5) [6, 8, 23] [] (a2 := (st 32 [(6, .int .i64 r1.2), (8, .int .i64 r3.2), (23, .bool false)])) (h2 := []) (by kernel_rfl) ?_
    refine TI.run 9 [4] [] (a2 := (st 32 [(4, .bool false)])) (h2 := []) (by kernel_rfl) ?_
    refine TI.done (by kernel_rfl) ?_
    exact hK
theorem C5 (p0 : Int) (p1 : Int) (r : Bool) (hF : F5 p0 p1 = some r) : PureSim Try.prog 5 [.int .i64 p0, .int .i64 p1] [] (V5 0 r) (N5 0 r) :=
  PureSim.of_Fin Try.func5 (c := c5) (by kernel_rfl) (by kernel_rfl) 0 rfl [0, 1] [] (by kernel_rfl) (B5 p0 p1 r hF)

end Go.Proofs.Ytdekbjfjbbdjgaa
